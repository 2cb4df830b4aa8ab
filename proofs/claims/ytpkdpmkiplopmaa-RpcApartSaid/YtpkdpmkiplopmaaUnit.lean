import Derived.Test.YtpkdpmkiplopmaaPage4
import Derived.Test.YtpkdpmkiplopmaaKeepAsk
/- a storage unit: the program's -/
namespace Go.Proofs.Ytpkdpmkiplopmaa
open Go.RowKit Esch

structure UnS where
  pg : PgS
  epoch : Int
  down : Bool
@[simp] def ansU (c n : Int) (d : ByteArray) (ep : Int) : Value := .agg #[.int .i64 c, .int .i64 n, .string d, .int .i64 0, .slice none 0 0, .int .i64 0, .int .i64 0, .int .i64 ep]
structure UnitAt (w : World) (u pb mb : Nat) (s : UnS) : Prop where
  c0 : w.cell? ⟨u, 0, none⟩ = some (.pointer (some ⟨pb, 0, none⟩))
  c1 : w.cell? ⟨u, 1, none⟩ = some (.int .i64 s.epoch)
  c2 : w.cell? ⟨u, 2, none⟩ = some (.bool s.down)
  f1 : w.frozen? ⟨u, 1, none⟩ = false
  f2 : w.frozen? ⟨u, 2, none⟩ = false
  pages : PagesAt w pb mb s.pg
  ne1 : u ≠ pb
  ne2 : u ≠ mb
theorem UnitAt.mod {F : Nat → Prop} {w w' : World} {u pb mb : Nat} {s : UnS} (h : UnitAt w u pb mb s) (hM : Mod F w w') (hu : ¬ F u) (hb : ¬ F pb) (hm : ¬ F mb) : UnitAt w' u pb mb s :=
  ⟨hM.at h.c0 hu, hM.at h.c1 hu, hM.at h.c2 hu, (hM.frozen (p := ⟨u, 1, none⟩) (cell_lt h.c0) hu).trans h.f1, (hM.frozen (p := ⟨u, 2, none⟩) (cell_lt h.c0) hu).trans h.f2, h.pages.mod hM hb hm, h.ne1, h.ne2⟩
theorem UnitAt.withPages {w w' : World} {u pb mb : Nat} {s : UnS} {p : PgS} (h : UnitAt w u pb mb s) (hp : PagesAt w' pb mb p) (hM : Mod (fun k => k = pb ∨ k = mb) w w') : UnitAt w' u pb mb { s with pg := p } := by
  have hu : ¬ (u = pb ∨ u = mb) := fun e => e.elim h.ne1 h.ne2
  exact ⟨hM.at h.c0 hu, hM.at h.c1 hu, hM.at h.c2 hu, (hM.frozen (p := ⟨u, 1, none⟩) (cell_lt h.c0) hu).trans h.f1, (hM.frozen (p := ⟨u, 2, none⟩) (cell_lt h.c0) hu).trans h.f2, hp, h.ne1, h.ne2⟩
def UnPost (w : World) (u pb mb : Nat) (c n : Int) (d : ByteArray) (ep : Int) (s : UnS) (e : Ending) (w' : World) : Prop := e = .returned (ansU c n d ep) ∧ UnitAt w' u pb mb s ∧ Mod (fun k => k = u ∨ k = pb ∨ k = mb) w w'
/-- the boxes of a question and of an answer -/
structure Boxed2 (w W : World) (ab rb : Nat) (a0 a1 a2 a3 a4 a5 a6 a7 a8 : Value) : Prop where
  below : Below w.heap.size w W
  size : W.heap.size = w.heap.size + 2
  bab : w.heap.size ≤ ab ∧ ab < W.heap.size
  brb : w.heap.size ≤ rb ∧ rb < W.heap.size
  q0 : W.cell? ⟨ab, 0, none⟩ = some a0
  q1 : W.cell? ⟨ab, 1, none⟩ = some a1
  q2 : W.cell? ⟨ab, 2, none⟩ = some a2
  q3 : W.cell? ⟨ab, 3, none⟩ = some a3
  q4 : W.cell? ⟨ab, 4, none⟩ = some a4
  q5 : W.cell? ⟨ab, 5, none⟩ = some a5
  q6 : W.cell? ⟨ab, 6, none⟩ = some a6
  q7 : W.cell? ⟨ab, 7, none⟩ = some a7
  q8 : W.cell? ⟨ab, 8, none⟩ = some a8
  r0 : W.cell? ⟨rb, 0, none⟩ = some (.int .i64 0)
  r1 : W.cell? ⟨rb, 1, none⟩ = some (.int .i64 0)
  r2 : W.cell? ⟨rb, 2, none⟩ = some (.string ⟨#[]⟩)
  r3 : W.cell? ⟨rb, 3, none⟩ = some (.int .i64 0)
  r4 : W.cell? ⟨rb, 4, none⟩ = some (.slice none 0 0)
  r5 : W.cell? ⟨rb, 5, none⟩ = some (.int .i64 0)
  r6 : W.cell? ⟨rb, 6, none⟩ = some (.int .i64 0)
  r7 : W.cell? ⟨rb, 7, none⟩ = some (.int .i64 0)
  f0 : W.frozen? ⟨rb, 0, none⟩ = false
  f1 : W.frozen? ⟨rb, 1, none⟩ = false
  f2 : W.frozen? ⟨rb, 2, none⟩ = false
  f3 : W.frozen? ⟨rb, 3, none⟩ = false
  f4 : W.frozen? ⟨rb, 4, none⟩ = false
  f5 : W.frozen? ⟨rb, 5, none⟩ = false
  f6 : W.frozen? ⟨rb, 6, none⟩ = false
  f7 : W.frozen? ⟨rb, 7, none⟩ = false
set_option maxHeartbeats 1000000 in
theorem boxed2 (w : World) (a0 a1 a2 a3 a4 a5 a6 a7 a8 : Value) : Boxed2 w ((w.alloc (.cells #[a0, a1, a2, a3, a4, a5, a6, a7, a8] 44)).alloc (.cells #[.int .i64 0, .int .i64 0, .string ⟨#[]⟩, .int .i64 0, .slice none 0 0, .int .i64 0, .int .i64 0, .int .i64 0] 49)) w.heap.size (w.heap.size + 1) a0 a1 a2 a3 a4 a5 a6 a7 a8 := by
  refine ⟨by (repeat (first | with_reducible exact (Below.refl _ _) | with_reducible refine Below.drew ?_ | with_reducible refine Esch.below_drewN ?_ _ | with_reducible refine Below.setCell ?_ (by first | omega | (simp; done) | (simp; omega)) _ | with_reducible refine Below.alloc ?_ (by first | omega | (simp; done) | (simp; omega)) _)), by simp, ⟨by omega, by simp; omega⟩, ⟨by omega, by simp⟩, ?_, ?_, ?_, ?_, ?_, ?_, ?_, ?_, ?_, ?_, ?_, ?_, ?_, ?_, ?_, ?_, ?_, ?_, ?_, ?_, ?_, ?_, ?_, ?_, ?_⟩
  all_goals go_simp
/-- what is known of an answer's box, in another world -/
theorem Boxed2.far {w W W' : World} {ab rb : Nat} {a0 a1 a2 a3 a4 a5 a6 a7 a8 : Value} (h : Boxed2 w W ab rb a0 a1 a2 a3 a4 a5 a6 a7 a8) {F : Nat → Prop} (hM : Mod F W W') (hF : ¬ F rb) :
    W'.cell? ⟨rb, 0, none⟩ = some (.int .i64 0) ∧ W'.cell? ⟨rb, 1, none⟩ = some (.int .i64 0) ∧ W'.cell? ⟨rb, 2, none⟩ = some (.string ⟨#[]⟩) ∧ W'.cell? ⟨rb, 3, none⟩ = some (.int .i64 0) ∧ W'.cell? ⟨rb, 4, none⟩ = some (.slice none 0 0) ∧ W'.cell? ⟨rb, 5, none⟩ = some (.int .i64 0) ∧ W'.cell? ⟨rb, 6, none⟩ = some (.int .i64 0) ∧ W'.cell? ⟨rb, 7, none⟩ = some (.int .i64 0) ∧
    W'.frozen? ⟨rb, 0, none⟩ = false ∧ W'.frozen? ⟨rb, 1, none⟩ = false ∧ W'.frozen? ⟨rb, 2, none⟩ = false ∧ W'.frozen? ⟨rb, 3, none⟩ = false ∧ W'.frozen? ⟨rb, 4, none⟩ = false ∧ W'.frozen? ⟨rb, 5, none⟩ = false ∧ W'.frozen? ⟨rb, 6, none⟩ = false ∧ W'.frozen? ⟨rb, 7, none⟩ = false :=
  ⟨hM.at h.r0 hF, hM.at h.r1 hF, hM.at h.r2 hF, hM.at h.r3 hF, hM.at h.r4 hF, hM.at h.r5 hF, hM.at h.r6 hF, hM.at h.r7 hF, (hM.frozen (p := ⟨rb, 0, none⟩) h.brb.2 hF).trans h.f0, (hM.frozen (p := ⟨rb, 1, none⟩) h.brb.2 hF).trans h.f1, (hM.frozen (p := ⟨rb, 2, none⟩) h.brb.2 hF).trans h.f2, (hM.frozen (p := ⟨rb, 3, none⟩) h.brb.2 hF).trans h.f3, (hM.frozen (p := ⟨rb, 4, none⟩) h.brb.2 hF).trans h.f4, (hM.frozen (p := ⟨rb, 5, none⟩) h.brb.2 hF).trans h.f5, (hM.frozen (p := ⟨rb, 6, none⟩) h.brb.2 hF).trans h.f6, (hM.frozen (p := ⟨rb, 7, none⟩) h.brb.2 hF).trans h.f7⟩
section
variable (x0 x1 x4 x5 x7 : Int) (ca : Option Addr) (cn cc : Nat)
set_option maxRecDepth 100000 in
set_option maxHeartbeats 1000000 in
theorem uwrite_any (w : World) (u pb mb : Nat) (s : UnS) (hok : s.pg.ok) (h : UnitAt w u pb mb s) (ep page : Int) (d : ByteArray) (hd : d.size ≤ 9223372036854775807) :
    Calls Try.prog 101 #[.pointer (some ⟨u, 0, none⟩), .agg #[.int .i64 x0, .int .i64 x1, .int .i64 ep, .int .i64 page, .int .i64 x4, .int .i64 x5, .string d, .int .i64 x7, .slice ca cn cc]] w
      (UnPost w u pb mb (s.pg.write page d).1 0 ⟨#[]⟩ 0 { s with pg := (s.pg.write page d).2 }) := by
  have hpw := fun W hW => pwrite_any W pb mb s.pg hok (h.pages.keep hW) page d hd
  obtain ⟨W, hW, ab, rb, hab, hrb, hX⟩ : ∃ W, W = _ ∧ ∃ ab rb, ab = w.heap.size ∧ rb = w.heap.size + 1 ∧ Boxed2 w W ab rb (.int .i64 x0) (.int .i64 x1) (.int .i64 ep) (.int .i64 page) (.int .i64 x4) (.int .i64 x5) (.string d) (.int .i64 x7) (.slice ca cn cc) := ⟨_, rfl, _, _, rfl, rfl, boxed2 w _ _ _ _ _ _ _ _ _⟩
  have HW := Lib.hid hW
  have HA := Lib.hid hab
  have HR := Lib.hid hrb
  have hu := cell_lt h.c0
  have hb := cell_lt h.pages.c0
  have hm := h.pages.mlt
  have HU := Lib.hid (h.mod (F := none') (Mod.of_below hX.below) id id id)
  have c0 := HU.out.c0
  have q3 := hX.q3
  have q6 := hX.q6
  have HX := Lib.hid hX
  have hzW := hX.size
  have hrb2 := hX.brb
  clear h hok hW hab hrb hX
  go_enter Try.func101, Try.ntmps101
  go_wp2_with fail
  rw [← HW.out, ← HR.out, ← HA.out]
  refine region_tail 8 (by kernel_rfl) (by kernel_rfl) (fun T hT K hK => ?_)
  simp only [List.take_succ_cons, List.take_zero]
  repeat still_step
  refine wpStill_nil (hK _ ?_)
  clear hK
  simp only [List.drop_succ_cons, List.drop_zero] at hT
  subst hT
  go_wp2_with fail
  refine (hpw W.drew (by (repeat' (first | (with_reducible exact (Mod.of_below HX.out.below)) | (with_reducible apply Mod.drew) | (with_reducible apply Mod.drewN) | (with_reducible apply Mod.alloc) | (with_reducible apply Mod.setCellAt) | (intro _; first | rfl | exact Or.inl rfl | exact Or.inr rfl) | (intro h; exfalso; omega))))).mono ?_
  clear hpw
  rintro e w3 ⟨rfl, hP3, hM3⟩
  have hMW : Mod (fun k => k = pb ∨ k = mb) W w3 := ((Mod.refl _ W).drew).trans hM3
  obtain ⟨g0, g1, g2, g3, g4, g5, g6, g7, f0, f1, f2, f3, f4, f5, f6, f7⟩ := HX.out.far hMW (by omega)
  have HU3 := Lib.hid (HU.out.withPages hP3 hMW)
  have HMW := Lib.hid hMW
  clear hP3 hM3 hMW
  go_wp2_with fail
  refine bodyPost_ret (v := ansU (s.pg.write page d).1 0 ⟨#[]⟩ 0) (by simp only [results, Try.results101, ansU]; go_simp) rfl ?_
  refine ⟨rfl, HU3.out.mod (F := (· = rb)) (by (repeat' (first | (with_reducible exact (Mod.refl _ _)) | (with_reducible apply Mod.drew) | (with_reducible apply Mod.drewN) | (with_reducible apply Mod.alloc) | (with_reducible apply Mod.setCellAt) | (intro _; first | rfl | exact Or.inl rfl | exact Or.inr rfl) | (intro h; exfalso; omega)))) (by omega) (by omega) (by omega), ?_⟩
  refine (mod_none (Mod.of_below HX.out.below)).trans' (show Mod (fun k => k = rb ∨ k = pb ∨ k = mb) W _ from ?_) (fun j hj e => ?_)
  · repeat (with_reducible refine Mod.setCellAt ?_ (fun _ => Or.inl rfl) _)
    exact HMW.out.mono (fun _ _ h => Or.inr h)
  · rcases e with e | e
    · omega
    · exact Or.inr e
set_option maxRecDepth 100000 in
set_option maxHeartbeats 1000000 in
theorem ufill_any (w : World) (u pb mb : Nat) (s : UnS) (hok : s.pg.ok) (h : UnitAt w u pb mb s) (ep page : Int) (d : ByteArray) :
    Calls Try.prog 102 #[.pointer (some ⟨u, 0, none⟩), .agg #[.int .i64 x0, .int .i64 x1, .int .i64 ep, .int .i64 page, .int .i64 x4, .int .i64 x5, .string d, .int .i64 x7, .slice ca cn cc]] w
      (UnPost w u pb mb (s.pg.fill page).1 0 ⟨#[]⟩ 0 { s with pg := (s.pg.fill page).2 }) := by
  have hpw := fun W hW => pfill_any W pb mb s.pg hok (h.pages.keep hW) page
  obtain ⟨W, hW, ab, rb, hab, hrb, hX⟩ : ∃ W, W = _ ∧ ∃ ab rb, ab = w.heap.size ∧ rb = w.heap.size + 1 ∧ Boxed2 w W ab rb (.int .i64 x0) (.int .i64 x1) (.int .i64 ep) (.int .i64 page) (.int .i64 x4) (.int .i64 x5) (.string d) (.int .i64 x7) (.slice ca cn cc) := ⟨_, rfl, _, _, rfl, rfl, boxed2 w _ _ _ _ _ _ _ _ _⟩
  have HW := Lib.hid hW
  have HA := Lib.hid hab
  have HR := Lib.hid hrb
  have hu := cell_lt h.c0
  have hb := cell_lt h.pages.c0
  have hm := h.pages.mlt
  have HU := Lib.hid (h.mod (F := none') (Mod.of_below hX.below) id id id)
  have c0 := HU.out.c0
  have q3 := hX.q3
  have HX := Lib.hid hX
  have hzW := hX.size
  have hrb2 := hX.brb
  clear h hok hW hab hrb hX
  go_enter Try.func102, Try.ntmps102
  go_wp2_with fail
  rw [← HW.out, ← HR.out, ← HA.out]
  refine region_tail 6 (by kernel_rfl) (by kernel_rfl) (fun T hT K hK => ?_)
  simp only [List.take_succ_cons, List.take_zero]
  repeat still_step
  refine wpStill_nil (hK _ ?_)
  clear hK
  simp only [List.drop_succ_cons, List.drop_zero] at hT
  subst hT
  go_wp2_with fail
  refine (hpw W.drew (by (repeat' (first | (with_reducible exact (Mod.of_below HX.out.below)) | (with_reducible apply Mod.drew) | (with_reducible apply Mod.drewN) | (with_reducible apply Mod.alloc) | (with_reducible apply Mod.setCellAt) | (intro _; first | rfl | exact Or.inl rfl | exact Or.inr rfl) | (intro h; exfalso; omega))))).mono ?_
  clear hpw
  rintro e w3 ⟨rfl, hP3, hM3⟩
  have hMW : Mod (fun k => k = pb ∨ k = mb) W w3 := ((Mod.refl _ W).drew).trans hM3
  obtain ⟨g0, g1, g2, g3, g4, g5, g6, g7, f0, f1, f2, f3, f4, f5, f6, f7⟩ := HX.out.far hMW (by omega)
  have HU3 := Lib.hid (HU.out.withPages hP3 hMW)
  have HMW := Lib.hid hMW
  clear hP3 hM3 hMW
  go_wp2_with fail
  refine bodyPost_ret (v := ansU (s.pg.fill page).1 0 ⟨#[]⟩ 0) (by simp only [results, Try.results102, ansU]; go_simp) rfl ?_
  refine ⟨rfl, HU3.out.mod (F := (· = rb)) (by (repeat' (first | (with_reducible exact (Mod.refl _ _)) | (with_reducible apply Mod.drew) | (with_reducible apply Mod.drewN) | (with_reducible apply Mod.alloc) | (with_reducible apply Mod.setCellAt) | (intro _; first | rfl | exact Or.inl rfl | exact Or.inr rfl) | (intro h; exfalso; omega)))) (by omega) (by omega) (by omega), ?_⟩
  refine (mod_none (Mod.of_below HX.out.below)).trans' (show Mod (fun k => k = rb ∨ k = pb ∨ k = mb) W _ from ?_) (fun j hj e => ?_)
  · repeat (with_reducible refine Mod.setCellAt ?_ (fun _ => Or.inl rfl) _)
    exact HMW.out.mono (fun _ _ h => Or.inr h)
  · rcases e with e | e
    · omega
    · exact Or.inr e
set_option maxRecDepth 100000 in
set_option maxHeartbeats 1000000 in
theorem utrim_any (w : World) (u pb mb : Nat) (s : UnS) (hok : s.pg.ok) (h : UnitAt w u pb mb s) (ep page : Int) (d : ByteArray) :
    Calls Try.prog 104 #[.pointer (some ⟨u, 0, none⟩), .agg #[.int .i64 x0, .int .i64 x1, .int .i64 ep, .int .i64 page, .int .i64 x4, .int .i64 x5, .string d, .int .i64 x7, .slice ca cn cc]] w
      (UnPost w u pb mb (s.pg.trim page).1 0 ⟨#[]⟩ 0 { s with pg := (s.pg.trim page).2 }) := by
  have hpw := fun W hW => ptrim_any W pb mb s.pg hok (h.pages.keep hW) page
  obtain ⟨W, hW, ab, rb, hab, hrb, hX⟩ : ∃ W, W = _ ∧ ∃ ab rb, ab = w.heap.size ∧ rb = w.heap.size + 1 ∧ Boxed2 w W ab rb (.int .i64 x0) (.int .i64 x1) (.int .i64 ep) (.int .i64 page) (.int .i64 x4) (.int .i64 x5) (.string d) (.int .i64 x7) (.slice ca cn cc) := ⟨_, rfl, _, _, rfl, rfl, boxed2 w _ _ _ _ _ _ _ _ _⟩
  have HW := Lib.hid hW
  have HA := Lib.hid hab
  have HR := Lib.hid hrb
  have hu := cell_lt h.c0
  have hb := cell_lt h.pages.c0
  have hm := h.pages.mlt
  have HU := Lib.hid (h.mod (F := none') (Mod.of_below hX.below) id id id)
  have c0 := HU.out.c0
  have q3 := hX.q3
  have HX := Lib.hid hX
  have hzW := hX.size
  have hrb2 := hX.brb
  clear h hok hW hab hrb hX
  go_enter Try.func104, Try.ntmps104
  go_wp2_with fail
  rw [← HW.out, ← HR.out, ← HA.out]
  refine region_tail 6 (by kernel_rfl) (by kernel_rfl) (fun T hT K hK => ?_)
  simp only [List.take_succ_cons, List.take_zero]
  repeat still_step
  refine wpStill_nil (hK _ ?_)
  clear hK
  simp only [List.drop_succ_cons, List.drop_zero] at hT
  subst hT
  go_wp2_with fail
  refine (hpw W.drew (by (repeat' (first | (with_reducible exact (Mod.of_below HX.out.below)) | (with_reducible apply Mod.drew) | (with_reducible apply Mod.drewN) | (with_reducible apply Mod.alloc) | (with_reducible apply Mod.setCellAt) | (intro _; first | rfl | exact Or.inl rfl | exact Or.inr rfl) | (intro h; exfalso; omega))))).mono ?_
  clear hpw
  rintro e w3 ⟨rfl, hP3, hM3⟩
  have hMW : Mod (fun k => k = pb ∨ k = mb) W w3 := ((Mod.refl _ W).drew).trans hM3
  obtain ⟨g0, g1, g2, g3, g4, g5, g6, g7, f0, f1, f2, f3, f4, f5, f6, f7⟩ := HX.out.far hMW (by omega)
  have HU3 := Lib.hid (HU.out.withPages hP3 hMW)
  have HMW := Lib.hid hMW
  clear hP3 hM3 hMW
  go_wp2_with fail
  refine bodyPost_ret (v := ansU (s.pg.trim page).1 0 ⟨#[]⟩ 0) (by simp only [results, Try.results104, ansU]; go_simp) rfl ?_
  refine ⟨rfl, HU3.out.mod (F := (· = rb)) (by (repeat' (first | (with_reducible exact (Mod.refl _ _)) | (with_reducible apply Mod.drew) | (with_reducible apply Mod.drewN) | (with_reducible apply Mod.alloc) | (with_reducible apply Mod.setCellAt) | (intro _; first | rfl | exact Or.inl rfl | exact Or.inr rfl) | (intro h; exfalso; omega)))) (by omega) (by omega) (by omega), ?_⟩
  refine (mod_none (Mod.of_below HX.out.below)).trans' (show Mod (fun k => k = rb ∨ k = pb ∨ k = mb) W _ from ?_) (fun j hj e => ?_)
  · repeat (with_reducible refine Mod.setCellAt ?_ (fun _ => Or.inl rfl) _)
    exact HMW.out.mono (fun _ _ h => Or.inr h)
  · rcases e with e | e
    · omega
    · exact Or.inr e
set_option maxRecDepth 100000 in
set_option maxHeartbeats 1000000 in
theorem uread_any (w : World) (u pb mb : Nat) (s : UnS) (hok : s.pg.ok) (h : UnitAt w u pb mb s) (ep page : Int) (d : ByteArray) :
    Calls Try.prog 103 #[.pointer (some ⟨u, 0, none⟩), .agg #[.int .i64 x0, .int .i64 x1, .int .i64 ep, .int .i64 page, .int .i64 x4, .int .i64 x5, .string d, .int .i64 x7, .slice ca cn cc]] w
      (UnPost w u pb mb (s.pg.read page).2 0 (s.pg.read page).1 0 s) := by
  have hpw := fun W hW => pread_any W pb mb s.pg hok (h.pages.keep hW) page
  obtain ⟨W, hW, ab, rb, hab, hrb, hX⟩ : ∃ W, W = _ ∧ ∃ ab rb, ab = w.heap.size ∧ rb = w.heap.size + 1 ∧ Boxed2 w W ab rb (.int .i64 x0) (.int .i64 x1) (.int .i64 ep) (.int .i64 page) (.int .i64 x4) (.int .i64 x5) (.string d) (.int .i64 x7) (.slice ca cn cc) := ⟨_, rfl, _, _, rfl, rfl, boxed2 w _ _ _ _ _ _ _ _ _⟩
  have HW := Lib.hid hW
  have HA := Lib.hid hab
  have HR := Lib.hid hrb
  have hu := cell_lt h.c0
  have hb := cell_lt h.pages.c0
  have hm := h.pages.mlt
  have HU := Lib.hid (h.mod (F := none') (Mod.of_below hX.below) id id id)
  have c0 := HU.out.c0
  have q3 := hX.q3
  have HX := Lib.hid hX
  have hzW := hX.size
  have hrb2 := hX.brb
  clear h hok hW hab hrb hX
  go_enter Try.func103, Try.ntmps103
  go_wp2_with fail
  rw [← HW.out, ← HR.out, ← HA.out]
  have hKd : World.cell? W.drew ⟨u, 0, none⟩ = some (.pointer (some ⟨pb, 0, none⟩)) ∧ World.cell? W.drew ⟨ab, 3, none⟩ = some (.int .i64 page) := ⟨c0, q3⟩
  have hrd := hpw W.drew (by (repeat' (first | (with_reducible exact (Mod.of_below HX.out.below)) | (with_reducible apply Mod.drew) | (with_reducible apply Mod.drewN) | (with_reducible apply Mod.alloc) | (with_reducible apply Mod.setCellAt) | (intro _; first | rfl | exact Or.inl rfl | exact Or.inr rfl) | (intro h; exfalso; omega))))
  go_region_held3 (fun W' => W'.cell? ⟨u, 0, none⟩ = some (.pointer (some ⟨pb, 0, none⟩)) ∧ W'.cell? ⟨ab, 3, none⟩ = some (.int .i64 page))
    (first
      | with_reducible exact hKd
      | with_reducible exact hK3)
    (first
      | (go_at_call 117; (with_reducible refine hrd.mono ?_); rintro e w3 ⟨rfl, hM3'⟩
         have hM3 : Mod none' W w3 := ((Mod.refl _ W).drew).trans hM3'
         have hK3 : w3.cell? ⟨u, 0, none⟩ = some (.pointer (some ⟨pb, 0, none⟩)) ∧ w3.cell? ⟨ab, 3, none⟩ = some (.int .i64 page) := ⟨hM3.at c0 id, hM3.at q3 id⟩
         clear hrd hM3'))
  obtain ⟨g0, g1, g2, g3, g4, g5, g6, g7, f0, f1, f2, f3, f4, f5, f6, f7⟩ := HX.out.far hM3 id
  have HU3 := Lib.hid (HU.out.mod (F := none') hM3 id id id)
  have HMW := Lib.hid (mod_none (F := fun k => k = pb ∨ k = mb) hM3)
  clear hM3 hK3 hKd
  go_wp2_with fail
  refine bodyPost_ret (v := ansU (s.pg.read page).2 0 (s.pg.read page).1 0) (by simp only [results, Try.results103, ansU]; go_simp) rfl ?_
  refine ⟨rfl, HU3.out.mod (F := (· = rb)) (by (repeat' (first | (with_reducible exact (Mod.refl _ _)) | (with_reducible apply Mod.drew) | (with_reducible apply Mod.drewN) | (with_reducible apply Mod.alloc) | (with_reducible apply Mod.setCellAt) | (intro _; first | rfl | exact Or.inl rfl | exact Or.inr rfl) | (intro h; exfalso; omega)))) (by omega) (by omega) (by omega), ?_⟩
  refine (mod_none (Mod.of_below HX.out.below)).trans' (show Mod (fun k => k = rb ∨ k = pb ∨ k = mb) W _ from ?_) (fun j hj e => ?_)
  · repeat (with_reducible refine Mod.setCellAt ?_ (fun _ => Or.inl rfl) _)
    exact HMW.out.mono (fun _ _ h => Or.inr h)
  · rcases e with e | e
    · omega
    · exact Or.inr e
set_option maxRecDepth 100000 in
set_option maxHeartbeats 1000000 in
theorem useal_any (w : World) (u pb mb : Nat) (s : UnS) (hok : s.pg.ok) (h : UnitAt w u pb mb s) (ep page : Int) (d : ByteArray) :
    Calls Try.prog 105 #[.pointer (some ⟨u, 0, none⟩), .agg #[.int .i64 x0, .int .i64 x1, .int .i64 ep, .int .i64 page, .int .i64 x4, .int .i64 x5, .string d, .int .i64 x7, .slice ca cn cc]] w
      (UnPost w u pb mb 0 s.pg.tail ⟨#[]⟩ 0 { s with epoch := ep }) := by
  have hu := cell_lt h.c0
  have hb := cell_lt h.pages.c0
  have hm := h.pages.mlt
  obtain ⟨ws, hws⟩ : ∃ ws, ws = w.setCell ⟨u, 1, none⟩ (.int .i64 ep) := ⟨_, rfl⟩
  have hMs : Mod (· = u) w ws := by rw [hws]; exact (Mod.refl (· = u) w).setCellAt (fun _ => rfl) _
  have hzs : ws.heap.size = w.heap.size := by rw [hws, World.size_setCell]
  have hUs : UnitAt ws u pb mb { s with epoch := ep } := by
    have c0 := h.c0
    have c1 := h.c1
    have c2 := h.c2
    have f1 := h.f1
    have f2 := h.f2
    refine ⟨?_, ?_, ?_, ?_, ?_, h.pages.mod hMs (fun e => h.ne1 e.symm) (fun e => h.ne2 e.symm), h.ne1, h.ne2⟩
    all_goals (rw [hws]; go_simp)
  obtain ⟨W, hW, ab, rb, hab, hrb, hX⟩ : ∃ W, W = _ ∧ ∃ ab rb, ab = ws.heap.size ∧ rb = ws.heap.size + 1 ∧ Boxed2 ws W ab rb (.int .i64 x0) (.int .i64 x1) (.int .i64 ep) (.int .i64 page) (.int .i64 x4) (.int .i64 x5) (.string d) (.int .i64 x7) (.slice ca cn cc) := ⟨_, rfl, _, _, rfl, rfl, boxed2 ws _ _ _ _ _ _ _ _ _⟩
  rw [hws] at hW
  rw [hzs] at hab hrb
  have HW := Lib.hid hW
  have HA := Lib.hid hab
  have HR := Lib.hid hrb
  have HU := Lib.hid (hUs.mod (F := none') (Mod.of_below hX.below) id id id)
  have hpt := ptail_any W pb mb s.pg hok HU.out.pages
  have HX := Lib.hid hX
  have hzW := hX.size
  have hrb2 := hX.brb
  have c0 := h.c0
  have c1 := h.c1
  have e1 := h.f1
  have n1 := h.ne1
  have n2 := h.ne2
  have HMs := Lib.hid hMs
  clear h hok hW hab hrb hX hUs hMs hws
  go_enter Try.func105, Try.ntmps105
  go_wp2_with fail
  rw [← HW.out, ← HR.out, ← HA.out]
  refine hpt.mono ?_
  clear hpt
  rintro e w3 ⟨rfl, hB3⟩
  have hM3 : Mod none' W w3 := Mod.of_below hB3
  obtain ⟨g0, g1, g2, g3, g4, g5, g6, g7, f0, f1, f2, f3, f4, f5, f6, f7⟩ := HX.out.far hM3 id
  have HU3 := Lib.hid (HU.out.mod (F := none') hM3 id id id)
  have HMW := Lib.hid (mod_none (F := fun k => k = pb ∨ k = mb) hM3)
  clear hM3 hB3 c0 c1 e1
  go_wp2_with fail
  refine bodyPost_ret (v := ansU 0 s.pg.tail ⟨#[]⟩ 0) (by simp only [results, Try.results105, ansU]; go_simp) rfl ?_
  refine ⟨rfl, HU3.out.mod (F := (· = rb)) (by (repeat' (first | (with_reducible exact (Mod.refl _ _)) | (with_reducible apply Mod.drew) | (with_reducible apply Mod.drewN) | (with_reducible apply Mod.alloc) | (with_reducible apply Mod.setCellAt) | (intro _; first | rfl | exact Or.inl rfl | exact Or.inr rfl) | (intro h; exfalso; omega)))) (by omega) (by omega) (by omega), ?_⟩
  refine (HMs.out.mono (fun _ _ h => Or.inl h)).trans' ((mod_none (Mod.of_below HX.out.below)).trans' (show Mod (fun k => k = rb ∨ k = pb ∨ k = mb) W _ from ?_) (fun j hj e => ?_)) (fun j hj e => e)
  · repeat (with_reducible refine Mod.setCellAt ?_ (fun _ => Or.inl rfl) _)
    exact HMW.out.mono (fun _ _ h => Or.inr h)
  · rcases e with e | e
    · omega
    · exact Or.inr e
end
end Go.Proofs.Ytpkdpmkiplopmaa
