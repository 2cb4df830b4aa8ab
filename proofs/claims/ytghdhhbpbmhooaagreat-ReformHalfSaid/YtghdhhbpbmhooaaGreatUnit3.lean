/- a storage unit: Do -/
import Derived.Test.YtghdhhbpbmhooaaGreatPkPage
import Derived.Deep.Cut
namespace Go.Proofs.YtghdhhbpbmhooaaGreat
open Go.RowKit Esch

def UnS.«do» (s : UnS) (k ep page : Int) (d : ByteArray) : (Int × Int × ByteArray × Int) × UnS :=
  if s.down then ((45, 0, ⟨#[]⟩, 0), s)
  else if k < 1 ∨ 5 < k then ((1, 0, ⟨#[]⟩, s.epoch), s)
  else if ep < s.epoch then ((40, 0, ⟨#[]⟩, s.epoch), s)
  else if k = 1 then (((s.pg.write page d).1, 0, ⟨#[]⟩, s.epoch), { s with pg := (s.pg.write page d).2 })
  else if k = 2 then (((s.pg.fill page).1, 0, ⟨#[]⟩, s.epoch), { s with pg := (s.pg.fill page).2 })
  else if k = 3 then (((s.pg.read page).2, 0, (s.pg.read page).1, s.epoch), s)
  else if k = 4 then (((s.pg.trim page).1, 0, ⟨#[]⟩, s.epoch), { s with pg := (s.pg.trim page).2 })
  else ((0, s.pg.tail, ⟨#[]⟩, ep), { s with epoch := ep })
def DoPost (w : World) (u pb mb : Nat) (r : (Int × Int × ByteArray × Int) × UnS) (e : Ending) (w' : World) : Prop := e = .returned (ansU r.1.1 r.1.2.1 r.1.2.2.1 r.1.2.2.2) ∧ UnitAt w' u pb mb r.2 ∧ Mod (fun k => k = u ∨ k = pb ∨ k = mb) w w'
@[simp] theorem eqlF0 (w : World) : (binOp .eql 199 .nilFunc .nilFunc).run Tryz.prog w = .ok (.bool true) w := by kernel_rfl
@[simp] theorem eqlF1 (f : Nat) (w : World) : (binOp .eql 199 (fnV f) .nilFunc).run Tryz.prog w = .ok (.bool false) w := by kernel_rfl
/-- the boxes of a question, of an answer, and of one more -/
structure Boxed3 (w W : World) (ab rb xb : Nat) (a0 a1 a2 a3 a4 a5 a6 a7 a8 : Value) : Prop where
  below : Below w.heap.size w W
  size : W.heap.size = w.heap.size + 3
  bab : w.heap.size ≤ ab ∧ ab < W.heap.size
  brb : w.heap.size ≤ rb ∧ rb < W.heap.size
  bxb : w.heap.size ≤ xb ∧ xb < W.heap.size
  ne : rb ≠ xb
  q0 : W.cell? ⟨ab, 0, none⟩ = some a0
  q1 : W.cell? ⟨ab, 1, none⟩ = some a1
  q2 : W.cell? ⟨ab, 2, none⟩ = some a2
  q3 : W.cell? ⟨ab, 3, none⟩ = some a3
  q4 : W.cell? ⟨ab, 4, none⟩ = some a4
  q5 : W.cell? ⟨ab, 5, none⟩ = some a5
  q6 : W.cell? ⟨ab, 6, none⟩ = some a6
  q7 : W.cell? ⟨ab, 7, none⟩ = some a7
  q8 : W.cell? ⟨ab, 8, none⟩ = some a8
  r0 : W.cell? ⟨rb, 0, none⟩ = some (.int .i64 0)
  r1 : W.cell? ⟨rb, 1, none⟩ = some (.int .i64 0)
  r2 : W.cell? ⟨rb, 2, none⟩ = some (.string ⟨#[]⟩)
  r3 : W.cell? ⟨rb, 3, none⟩ = some (.int .i64 0)
  r4 : W.cell? ⟨rb, 4, none⟩ = some (.slice none 0 0)
  r5 : W.cell? ⟨rb, 5, none⟩ = some (.int .i64 0)
  r6 : W.cell? ⟨rb, 6, none⟩ = some (.int .i64 0)
  r7 : W.cell? ⟨rb, 7, none⟩ = some (.int .i64 0)
  ff : ∀ o, W.frozen? ⟨rb, o, none⟩ = false
  y0 : W.cell? ⟨xb, 0, none⟩ = some (.int .i64 1)
  y1 : W.cell? ⟨xb, 1, none⟩ = some (.int .i64 0)
  y2 : W.cell? ⟨xb, 2, none⟩ = some (.string ⟨#[]⟩)
  y3 : W.cell? ⟨xb, 3, none⟩ = some (.int .i64 0)
  y4 : W.cell? ⟨xb, 4, none⟩ = some (.slice none 0 0)
  y5 : W.cell? ⟨xb, 5, none⟩ = some (.int .i64 0)
  y6 : W.cell? ⟨xb, 6, none⟩ = some (.int .i64 0)
  y7 : W.cell? ⟨xb, 7, none⟩ = some (.int .i64 0)
  gf : ∀ o, W.frozen? ⟨xb, o, none⟩ = false
set_option maxHeartbeats 1000000 in
theorem boxed3 (w : World) (a0 a1 a2 a3 a4 a5 a6 a7 a8 : Value) : Boxed3 w (((w.alloc (.cells #[a0, a1, a2, a3, a4, a5, a6, a7, a8] 34)).alloc (.cells #[.int .i64 0, .int .i64 0, .string ⟨#[]⟩, .int .i64 0, .slice none 0 0, .int .i64 0, .int .i64 0, .int .i64 0] 49)).alloc (.cells #[.int .i64 1, .int .i64 0, .string ⟨#[]⟩, .int .i64 0, .slice none 0 0, .int .i64 0, .int .i64 0, .int .i64 0] 49)) w.heap.size (w.heap.size + 1) (w.heap.size + 1 + 1) a0 a1 a2 a3 a4 a5 a6 a7 a8 := by
  constructor
  case below => exact belC (Below.refl _ _)
  case size => simp
  case bab => exact ⟨by omega, by first | (simp; done) | (simp; omega)⟩
  case brb => exact ⟨by omega, by first | (simp; done) | (simp; omega)⟩
  case bxb => exact ⟨by omega, by first | (simp; done) | (simp; omega)⟩
  case ne => omega
  case ff => intro o; go_simp
  case gf => intro o; go_simp
  all_goals go_simp
theorem Boxed3.far {w W W' : World} {ab rb xb : Nat} {a0 a1 a2 a3 a4 a5 a6 a7 a8 : Value} (h : Boxed3 w W ab rb xb a0 a1 a2 a3 a4 a5 a6 a7 a8) {F : Nat → Prop} (hM : Mod F W W') (hF : ¬ F rb) :
    W'.cell? ⟨rb, 0, none⟩ = some (.int .i64 0) ∧ W'.cell? ⟨rb, 1, none⟩ = some (.int .i64 0) ∧ W'.cell? ⟨rb, 2, none⟩ = some (.string ⟨#[]⟩) ∧ W'.cell? ⟨rb, 3, none⟩ = some (.int .i64 0) ∧ W'.cell? ⟨rb, 4, none⟩ = some (.slice none 0 0) ∧ W'.cell? ⟨rb, 5, none⟩ = some (.int .i64 0) ∧ W'.cell? ⟨rb, 6, none⟩ = some (.int .i64 0) ∧ W'.cell? ⟨rb, 7, none⟩ = some (.int .i64 0) ∧
    ∀ o, W'.frozen? ⟨rb, o, none⟩ = false :=
  ⟨hM.at h.r0 hF, hM.at h.r1 hF, hM.at h.r2 hF, hM.at h.r3 hF, hM.at h.r4 hF, hM.at h.r5 hF, hM.at h.r6 hF, hM.at h.r7 hF, fun o => (hM.frozen (p := ⟨rb, o, none⟩) h.brb.2 hF).trans (h.ff o)⟩
theorem Boxed3.farX {w W W' : World} {ab rb xb : Nat} {a0 a1 a2 a3 a4 a5 a6 a7 a8 : Value} (h : Boxed3 w W ab rb xb a0 a1 a2 a3 a4 a5 a6 a7 a8) {F : Nat → Prop} (hM : Mod F W W') (hF : ¬ F xb) :
    W'.cell? ⟨xb, 0, none⟩ = some (.int .i64 1) ∧ W'.cell? ⟨xb, 1, none⟩ = some (.int .i64 0) ∧ W'.cell? ⟨xb, 2, none⟩ = some (.string ⟨#[]⟩) ∧ W'.cell? ⟨xb, 3, none⟩ = some (.int .i64 0) ∧ W'.cell? ⟨xb, 4, none⟩ = some (.slice none 0 0) ∧ W'.cell? ⟨xb, 5, none⟩ = some (.int .i64 0) ∧ W'.cell? ⟨xb, 6, none⟩ = some (.int .i64 0) ∧ W'.cell? ⟨xb, 7, none⟩ = some (.int .i64 0) ∧
    ∀ o, W'.frozen? ⟨xb, o, none⟩ = false :=
  ⟨hM.at h.y0 hF, hM.at h.y1 hF, hM.at h.y2 hF, hM.at h.y3 hF, hM.at h.y4 hF, hM.at h.y5 hF, hM.at h.y6 hF, hM.at h.y7 hF, fun o => (hM.frozen (p := ⟨xb, o, none⟩) h.bxb.2 hF).trans (h.gf o)⟩
section
variable (x1 x4 x5 x7 : Int) (ca : Option Addr) (cn cc : Nat)
set_option maxRecDepth 100000 in
set_option maxHeartbeats 2000000 in
theorem unDo_1 (w : World) (u pb mb : Nat) (s : UnS) (hok : s.pg.ok) (h : UnitAt w u pb mb s) (hdn : s.down = false) (ep page : Int) (he : ¬ ep < s.epoch) (d : ByteArray) (hd : d.size ≤ 9223372036854775807) :
    Calls Tryz.prog 94 #[.pointer (some ⟨u, 0, none⟩), .agg #[.int .i64 1, .int .i64 x1, .int .i64 ep, .int .i64 page, .int .i64 x4, .int .i64 x5, .string d, .int .i64 x7, .slice ca cn cc]] w (DoPost w u pb mb (((s.pg.write page d).1, 0, ⟨#[]⟩, s.epoch), { s with pg := (s.pg.write page d).2 })) := by
  have H := Lib.hid h
  have c0 := h.c0
  have c1 := h.c1
  have c2 := h.c2
  rw [hdn] at c2
  have hu := cell_lt h.c0
  have hb := cell_lt h.pages.c0
  have hm := h.pages.mlt
  have he' : decide (ep < s.epoch) = false := decide_eq_false he
  clear h he hdn
  unfold DoPost
  obtain ⟨W, hW, ab, rb, xb, hab, hrb, hxb, hX⟩ : ∃ W, W = _ ∧ ∃ ab rb xb, ab = w.heap.size ∧ rb = w.heap.size + 1 ∧ xb = w.heap.size + 1 + 1 ∧ Boxed3 w W ab rb xb (.int .i64 1) (.int .i64 x1) (.int .i64 ep) (.int .i64 page) (.int .i64 x4) (.int .i64 x5) (.string d) (.int .i64 x7) (.slice ca cn cc) := ⟨_, rfl, _, _, _, rfl, rfl, rfl, boxed3 w _ _ _ _ _ _ _ _ _⟩
  have hcl := fun n : Nat => (uwrite_any 1 x1 x4 x5 x7 ca cn cc (W.drewN n) u pb mb s hok (H.out.mod (F := none') (show Mod none' w (W.drewN n) from (Mod.of_below hX.below).drewN n) id id id) ep page d hd)
  rw [hW] at hcl
  have HW := Lib.hid hW
  have HR := Lib.hid hrb
  have HXB := Lib.hid hxb
  have HX := Lib.hid hX
  have hzW := hX.size
  have hrb2 := hX.brb
  have hxb2 := hX.bxb
  have hrx := hX.ne
  have hne1 := H.out.ne1
  have hne2 := H.out.ne2
  clear hW hab hrb hxb hX hok
  go_enter Tryz.func94, Tryz.ntmps94
  go_wp2_with fail
  refine (doing1 _).mono ?_
  rintro e w1 ⟨rfl, rfl⟩
  go_wp2_with fail
  go_quiet (fail)
  go_wp2_with fail
  refine (hcl nq).mono ?_
  clear hcl
  rintro e w4 ⟨rfl, hU4, hM4'⟩
  rw [← HW.out] at hM4'
  rw [← HXB.out, ← HR.out]
  have hM4 : Mod (fun k => k = u ∨ k = pb ∨ k = mb) W w4 := ((Mod.refl _ W).drewN _).trans hM4'
  obtain ⟨g0, g1, g2, g3, g4, g5, g6, g7, ff⟩ := HX.out.far hM4 (by omega)
  obtain ⟨y0, y1, y2, y3, y4, y5, y6, y7, gf⟩ := HX.out.farX hM4 (by omega)
  have d1 := hU4.c1
  have HU4 := Lib.hid hU4
  have HM4 := Lib.hid hM4
  clear hU4 hM4 hM4' c0 c1 c2
  have hux : u ≠ xb := by omega
  have hxu : xb ≠ u := by omega
  have hxr : xb ≠ rb := by omega
  generalize Value.agg #[.int .i64 1, .int .i64 x1, .int .i64 ep, .int .i64 page, .int .i64 x4, .int .i64 x5, .string d, .int .i64 x7, .slice ca cn cc] = av
  obtain ⟨w5, hw5⟩ : ∃ w5, w5 = ((((((((w4.setCell ⟨xb, 0, none⟩ (.int .i64 ((s.pg.write page d).1))).setCell ⟨xb, 1, none⟩ (.int .i64 (0))).setCell ⟨xb, 2, none⟩ (.string (⟨#[]⟩))).setCell ⟨xb, 3, none⟩ (.int .i64 0)).setCell ⟨xb, 4, none⟩ (.slice none 0 0)).setCell ⟨xb, 5, none⟩ (.int .i64 0)).setCell ⟨xb, 6, none⟩ (.int .i64 0)).setCell ⟨xb, 7, none⟩ (.int .i64 0)) := ⟨_, rfl⟩
  have hM5 : Mod (· = xb) w4 w5 := by
    rw [hw5]
    exact modC (Mod.refl _ _)
  have z0 : w5.cell? ⟨xb, 0, none⟩ = some (.int .i64 ((s.pg.write page d).1)) := by rw [hw5]; go_simp
  have z1 : w5.cell? ⟨xb, 1, none⟩ = some (.int .i64 (0)) := by rw [hw5]; go_simp
  have z2 : w5.cell? ⟨xb, 2, none⟩ = some (.string (⟨#[]⟩)) := by rw [hw5]; go_simp
  have z3 : w5.cell? ⟨xb, 3, none⟩ = some (.int .i64 0) := by rw [hw5]; go_simp
  have z4 : w5.cell? ⟨xb, 4, none⟩ = some (.slice none 0 0) := by rw [hw5]; go_simp
  have z5 : w5.cell? ⟨xb, 5, none⟩ = some (.int .i64 0) := by rw [hw5]; go_simp
  have z6 : w5.cell? ⟨xb, 6, none⟩ = some (.int .i64 0) := by rw [hw5]; go_simp
  have z7 : w5.cell? ⟨xb, 7, none⟩ = some (.int .i64 0) := by rw [hw5]; go_simp
  have gf5 : ∀ o, w5.frozen? ⟨xb, o, none⟩ = false := fun o => by rw [hw5]; go_simp
  have d5 := hM5.at d1 hux
  have g0' := g0
  have HW5 := Lib.hid hw5
  clear hw5 d1
  simp only [ansU]
  go_upto_region 11 with fail
  rw [← HW5.out]
  have hXM : Mod (fun k => (k = rb ∨ k = xb) ∨ k = u ∨ k = pb ∨ k = mb) W w5 := (HM4.out.mono (fun _ _ h => Or.inr h)).trans (hM5.mono (fun _ _ h => Or.inl (Or.inr h)))
  have HXM := Lib.hid hXM
  have HU5 := Lib.hid (HU4.out.mod (F := (· = xb)) hM5 hux (by omega) (by omega))
  replace g0 := hM5.at g0 hrx
  replace g1 := hM5.at g1 hrx
  replace g2 := hM5.at g2 hrx
  replace g3 := hM5.at g3 hrx
  replace g4 := hM5.at g4 hrx
  replace g5 := hM5.at g5 hrx
  replace g6 := hM5.at g6 hrx
  replace g7 := hM5.at g7 hrx
  replace ff := fun o => (hM5.frozen (p := ⟨rb, o, none⟩) (cell_lt g0') hrx).trans (ff o)
  clear y0 y1 y2 y3 y4 y5 y6 y7 gf hM5 hXM g0'
  go_wp2_with fail
  refine bodyPost_ret (v := ansU ((s.pg.write page d).1) (0) (⟨#[]⟩) (s.epoch)) (by simp only [results, Tryz.results94, ansU]; go_simp) rfl ?_
  refine ⟨rfl, HU5.out.mod (F := fun k => k = rb ∨ k = xb) (by exact modC (Mod.refl _ _)) (by omega) (by omega) (by omega), ?_⟩
  refine (mod_none (Mod.of_below HX.out.below)).trans' (show Mod (fun k => (k = rb ∨ k = xb) ∨ k = u ∨ k = pb ∨ k = mb) W _ from ?_) (fun j hj e => ?_)
  · repeat' (first | (with_reducible exact HXM.out) | (with_reducible apply Mod.setCellAt) | (with_reducible apply Mod.drew) | (intro _; first | exact Or.inl (Or.inl rfl) | exact Or.inl (Or.inr rfl)))
  · rcases e with e | e
    · omega
    · exact e
set_option maxRecDepth 100000 in
set_option maxHeartbeats 2000000 in
theorem unDo_2 (w : World) (u pb mb : Nat) (s : UnS) (hok : s.pg.ok) (h : UnitAt w u pb mb s) (hdn : s.down = false) (ep page : Int) (he : ¬ ep < s.epoch) (d : ByteArray) :
    Calls Tryz.prog 94 #[.pointer (some ⟨u, 0, none⟩), .agg #[.int .i64 2, .int .i64 x1, .int .i64 ep, .int .i64 page, .int .i64 x4, .int .i64 x5, .string d, .int .i64 x7, .slice ca cn cc]] w (DoPost w u pb mb (((s.pg.fill page).1, 0, ⟨#[]⟩, s.epoch), { s with pg := (s.pg.fill page).2 })) := by
  have H := Lib.hid h
  have c0 := h.c0
  have c1 := h.c1
  have c2 := h.c2
  rw [hdn] at c2
  have hu := cell_lt h.c0
  have hb := cell_lt h.pages.c0
  have hm := h.pages.mlt
  have he' : decide (ep < s.epoch) = false := decide_eq_false he
  clear h he hdn
  unfold DoPost
  obtain ⟨W, hW, ab, rb, xb, hab, hrb, hxb, hX⟩ : ∃ W, W = _ ∧ ∃ ab rb xb, ab = w.heap.size ∧ rb = w.heap.size + 1 ∧ xb = w.heap.size + 1 + 1 ∧ Boxed3 w W ab rb xb (.int .i64 2) (.int .i64 x1) (.int .i64 ep) (.int .i64 page) (.int .i64 x4) (.int .i64 x5) (.string d) (.int .i64 x7) (.slice ca cn cc) := ⟨_, rfl, _, _, _, rfl, rfl, rfl, boxed3 w _ _ _ _ _ _ _ _ _⟩
  have hcl := fun n : Nat => (ufill_any 2 x1 x4 x5 x7 ca cn cc (W.drewN n) u pb mb s hok (H.out.mod (F := none') (show Mod none' w (W.drewN n) from (Mod.of_below hX.below).drewN n) id id id) ep page d)
  rw [hW] at hcl
  have HW := Lib.hid hW
  have HR := Lib.hid hrb
  have HXB := Lib.hid hxb
  have HX := Lib.hid hX
  have hzW := hX.size
  have hrb2 := hX.brb
  have hxb2 := hX.bxb
  have hrx := hX.ne
  have hne1 := H.out.ne1
  have hne2 := H.out.ne2
  clear hW hab hrb hxb hX hok
  go_enter Tryz.func94, Tryz.ntmps94
  go_wp2_with fail
  refine (doing2 _).mono ?_
  rintro e w1 ⟨rfl, rfl⟩
  go_wp2_with fail
  go_quiet (fail)
  go_wp2_with fail
  refine (hcl nq).mono ?_
  clear hcl
  rintro e w4 ⟨rfl, hU4, hM4'⟩
  rw [← HW.out] at hM4'
  rw [← HXB.out, ← HR.out]
  have hM4 : Mod (fun k => k = u ∨ k = pb ∨ k = mb) W w4 := ((Mod.refl _ W).drewN _).trans hM4'
  obtain ⟨g0, g1, g2, g3, g4, g5, g6, g7, ff⟩ := HX.out.far hM4 (by omega)
  obtain ⟨y0, y1, y2, y3, y4, y5, y6, y7, gf⟩ := HX.out.farX hM4 (by omega)
  have d1 := hU4.c1
  have HU4 := Lib.hid hU4
  have HM4 := Lib.hid hM4
  clear hU4 hM4 hM4' c0 c1 c2
  have hux : u ≠ xb := by omega
  have hxu : xb ≠ u := by omega
  have hxr : xb ≠ rb := by omega
  generalize Value.agg #[.int .i64 2, .int .i64 x1, .int .i64 ep, .int .i64 page, .int .i64 x4, .int .i64 x5, .string d, .int .i64 x7, .slice ca cn cc] = av
  obtain ⟨w5, hw5⟩ : ∃ w5, w5 = ((((((((w4.setCell ⟨xb, 0, none⟩ (.int .i64 ((s.pg.fill page).1))).setCell ⟨xb, 1, none⟩ (.int .i64 (0))).setCell ⟨xb, 2, none⟩ (.string (⟨#[]⟩))).setCell ⟨xb, 3, none⟩ (.int .i64 0)).setCell ⟨xb, 4, none⟩ (.slice none 0 0)).setCell ⟨xb, 5, none⟩ (.int .i64 0)).setCell ⟨xb, 6, none⟩ (.int .i64 0)).setCell ⟨xb, 7, none⟩ (.int .i64 0)) := ⟨_, rfl⟩
  have hM5 : Mod (· = xb) w4 w5 := by
    rw [hw5]
    exact modC (Mod.refl _ _)
  have z0 : w5.cell? ⟨xb, 0, none⟩ = some (.int .i64 ((s.pg.fill page).1)) := by rw [hw5]; go_simp
  have z1 : w5.cell? ⟨xb, 1, none⟩ = some (.int .i64 (0)) := by rw [hw5]; go_simp
  have z2 : w5.cell? ⟨xb, 2, none⟩ = some (.string (⟨#[]⟩)) := by rw [hw5]; go_simp
  have z3 : w5.cell? ⟨xb, 3, none⟩ = some (.int .i64 0) := by rw [hw5]; go_simp
  have z4 : w5.cell? ⟨xb, 4, none⟩ = some (.slice none 0 0) := by rw [hw5]; go_simp
  have z5 : w5.cell? ⟨xb, 5, none⟩ = some (.int .i64 0) := by rw [hw5]; go_simp
  have z6 : w5.cell? ⟨xb, 6, none⟩ = some (.int .i64 0) := by rw [hw5]; go_simp
  have z7 : w5.cell? ⟨xb, 7, none⟩ = some (.int .i64 0) := by rw [hw5]; go_simp
  have gf5 : ∀ o, w5.frozen? ⟨xb, o, none⟩ = false := fun o => by rw [hw5]; go_simp
  have d5 := hM5.at d1 hux
  have g0' := g0
  have HW5 := Lib.hid hw5
  clear hw5 d1
  simp only [ansU]
  go_upto_region 11 with fail
  rw [← HW5.out]
  have hXM : Mod (fun k => (k = rb ∨ k = xb) ∨ k = u ∨ k = pb ∨ k = mb) W w5 := (HM4.out.mono (fun _ _ h => Or.inr h)).trans (hM5.mono (fun _ _ h => Or.inl (Or.inr h)))
  have HXM := Lib.hid hXM
  have HU5 := Lib.hid (HU4.out.mod (F := (· = xb)) hM5 hux (by omega) (by omega))
  replace g0 := hM5.at g0 hrx
  replace g1 := hM5.at g1 hrx
  replace g2 := hM5.at g2 hrx
  replace g3 := hM5.at g3 hrx
  replace g4 := hM5.at g4 hrx
  replace g5 := hM5.at g5 hrx
  replace g6 := hM5.at g6 hrx
  replace g7 := hM5.at g7 hrx
  replace ff := fun o => (hM5.frozen (p := ⟨rb, o, none⟩) (cell_lt g0') hrx).trans (ff o)
  clear y0 y1 y2 y3 y4 y5 y6 y7 gf hM5 hXM g0'
  go_wp2_with fail
  refine bodyPost_ret (v := ansU ((s.pg.fill page).1) (0) (⟨#[]⟩) (s.epoch)) (by simp only [results, Tryz.results94, ansU]; go_simp) rfl ?_
  refine ⟨rfl, HU5.out.mod (F := fun k => k = rb ∨ k = xb) (by exact modC (Mod.refl _ _)) (by omega) (by omega) (by omega), ?_⟩
  refine (mod_none (Mod.of_below HX.out.below)).trans' (show Mod (fun k => (k = rb ∨ k = xb) ∨ k = u ∨ k = pb ∨ k = mb) W _ from ?_) (fun j hj e => ?_)
  · repeat' (first | (with_reducible exact HXM.out) | (with_reducible apply Mod.setCellAt) | (with_reducible apply Mod.drew) | (intro _; first | exact Or.inl (Or.inl rfl) | exact Or.inl (Or.inr rfl)))
  · rcases e with e | e
    · omega
    · exact e
set_option maxRecDepth 100000 in
set_option maxHeartbeats 2000000 in
theorem unDo_3 (w : World) (u pb mb : Nat) (s : UnS) (hok : s.pg.ok) (h : UnitAt w u pb mb s) (hdn : s.down = false) (ep page : Int) (he : ¬ ep < s.epoch) (d : ByteArray) :
    Calls Tryz.prog 94 #[.pointer (some ⟨u, 0, none⟩), .agg #[.int .i64 3, .int .i64 x1, .int .i64 ep, .int .i64 page, .int .i64 x4, .int .i64 x5, .string d, .int .i64 x7, .slice ca cn cc]] w (DoPost w u pb mb (((s.pg.read page).2, 0, (s.pg.read page).1, s.epoch), s)) := by
  have H := Lib.hid h
  have c0 := h.c0
  have c1 := h.c1
  have c2 := h.c2
  rw [hdn] at c2
  have hu := cell_lt h.c0
  have hb := cell_lt h.pages.c0
  have hm := h.pages.mlt
  have he' : decide (ep < s.epoch) = false := decide_eq_false he
  clear h he hdn
  unfold DoPost
  obtain ⟨W, hW, ab, rb, xb, hab, hrb, hxb, hX⟩ : ∃ W, W = _ ∧ ∃ ab rb xb, ab = w.heap.size ∧ rb = w.heap.size + 1 ∧ xb = w.heap.size + 1 + 1 ∧ Boxed3 w W ab rb xb (.int .i64 3) (.int .i64 x1) (.int .i64 ep) (.int .i64 page) (.int .i64 x4) (.int .i64 x5) (.string d) (.int .i64 x7) (.slice ca cn cc) := ⟨_, rfl, _, _, _, rfl, rfl, rfl, boxed3 w _ _ _ _ _ _ _ _ _⟩
  have hcl := fun n : Nat => (uread_any 3 x1 x4 x5 x7 ca cn cc (W.drewN n) u pb mb s hok (H.out.mod (F := none') (show Mod none' w (W.drewN n) from (Mod.of_below hX.below).drewN n) id id id) ep page d)
  rw [hW] at hcl
  have HW := Lib.hid hW
  have HR := Lib.hid hrb
  have HXB := Lib.hid hxb
  have HX := Lib.hid hX
  have hzW := hX.size
  have hrb2 := hX.brb
  have hxb2 := hX.bxb
  have hrx := hX.ne
  have hne1 := H.out.ne1
  have hne2 := H.out.ne2
  clear hW hab hrb hxb hX hok
  go_enter Tryz.func94, Tryz.ntmps94
  go_wp2_with fail
  refine (doing3 _).mono ?_
  rintro e w1 ⟨rfl, rfl⟩
  go_wp2_with fail
  go_quiet (fail)
  go_wp2_with fail
  refine (hcl nq).mono ?_
  clear hcl
  rintro e w4 ⟨rfl, hU4, hM4'⟩
  rw [← HW.out] at hM4'
  rw [← HXB.out, ← HR.out]
  have hM4 : Mod (fun k => k = u ∨ k = pb ∨ k = mb) W w4 := ((Mod.refl _ W).drewN _).trans hM4'
  obtain ⟨g0, g1, g2, g3, g4, g5, g6, g7, ff⟩ := HX.out.far hM4 (by omega)
  obtain ⟨y0, y1, y2, y3, y4, y5, y6, y7, gf⟩ := HX.out.farX hM4 (by omega)
  have d1 := hU4.c1
  have HU4 := Lib.hid hU4
  have HM4 := Lib.hid hM4
  clear hU4 hM4 hM4' c0 c1 c2
  have hux : u ≠ xb := by omega
  have hxu : xb ≠ u := by omega
  have hxr : xb ≠ rb := by omega
  generalize Value.agg #[.int .i64 3, .int .i64 x1, .int .i64 ep, .int .i64 page, .int .i64 x4, .int .i64 x5, .string d, .int .i64 x7, .slice ca cn cc] = av
  obtain ⟨w5, hw5⟩ : ∃ w5, w5 = ((((((((w4.setCell ⟨xb, 0, none⟩ (.int .i64 ((s.pg.read page).2))).setCell ⟨xb, 1, none⟩ (.int .i64 (0))).setCell ⟨xb, 2, none⟩ (.string ((s.pg.read page).1))).setCell ⟨xb, 3, none⟩ (.int .i64 0)).setCell ⟨xb, 4, none⟩ (.slice none 0 0)).setCell ⟨xb, 5, none⟩ (.int .i64 0)).setCell ⟨xb, 6, none⟩ (.int .i64 0)).setCell ⟨xb, 7, none⟩ (.int .i64 0)) := ⟨_, rfl⟩
  have hM5 : Mod (· = xb) w4 w5 := by
    rw [hw5]
    exact modC (Mod.refl _ _)
  have z0 : w5.cell? ⟨xb, 0, none⟩ = some (.int .i64 ((s.pg.read page).2)) := by rw [hw5]; go_simp
  have z1 : w5.cell? ⟨xb, 1, none⟩ = some (.int .i64 (0)) := by rw [hw5]; go_simp
  have z2 : w5.cell? ⟨xb, 2, none⟩ = some (.string ((s.pg.read page).1)) := by rw [hw5]; go_simp
  have z3 : w5.cell? ⟨xb, 3, none⟩ = some (.int .i64 0) := by rw [hw5]; go_simp
  have z4 : w5.cell? ⟨xb, 4, none⟩ = some (.slice none 0 0) := by rw [hw5]; go_simp
  have z5 : w5.cell? ⟨xb, 5, none⟩ = some (.int .i64 0) := by rw [hw5]; go_simp
  have z6 : w5.cell? ⟨xb, 6, none⟩ = some (.int .i64 0) := by rw [hw5]; go_simp
  have z7 : w5.cell? ⟨xb, 7, none⟩ = some (.int .i64 0) := by rw [hw5]; go_simp
  have gf5 : ∀ o, w5.frozen? ⟨xb, o, none⟩ = false := fun o => by rw [hw5]; go_simp
  have d5 := hM5.at d1 hux
  have g0' := g0
  have HW5 := Lib.hid hw5
  clear hw5 d1
  simp only [ansU]
  go_upto_region 11 with fail
  rw [← HW5.out]
  have hXM : Mod (fun k => (k = rb ∨ k = xb) ∨ k = u ∨ k = pb ∨ k = mb) W w5 := (HM4.out.mono (fun _ _ h => Or.inr h)).trans (hM5.mono (fun _ _ h => Or.inl (Or.inr h)))
  have HXM := Lib.hid hXM
  have HU5 := Lib.hid (HU4.out.mod (F := (· = xb)) hM5 hux (by omega) (by omega))
  replace g0 := hM5.at g0 hrx
  replace g1 := hM5.at g1 hrx
  replace g2 := hM5.at g2 hrx
  replace g3 := hM5.at g3 hrx
  replace g4 := hM5.at g4 hrx
  replace g5 := hM5.at g5 hrx
  replace g6 := hM5.at g6 hrx
  replace g7 := hM5.at g7 hrx
  replace ff := fun o => (hM5.frozen (p := ⟨rb, o, none⟩) (cell_lt g0') hrx).trans (ff o)
  clear y0 y1 y2 y3 y4 y5 y6 y7 gf hM5 hXM g0'
  go_wp2_with fail
  refine bodyPost_ret (v := ansU ((s.pg.read page).2) (0) ((s.pg.read page).1) (s.epoch)) (by simp only [results, Tryz.results94, ansU]; go_simp) rfl ?_
  refine ⟨rfl, HU5.out.mod (F := fun k => k = rb ∨ k = xb) (by exact modC (Mod.refl _ _)) (by omega) (by omega) (by omega), ?_⟩
  refine (mod_none (Mod.of_below HX.out.below)).trans' (show Mod (fun k => (k = rb ∨ k = xb) ∨ k = u ∨ k = pb ∨ k = mb) W _ from ?_) (fun j hj e => ?_)
  · repeat' (first | (with_reducible exact HXM.out) | (with_reducible apply Mod.setCellAt) | (with_reducible apply Mod.drew) | (intro _; first | exact Or.inl (Or.inl rfl) | exact Or.inl (Or.inr rfl)))
  · rcases e with e | e
    · omega
    · exact e
set_option maxRecDepth 100000 in
set_option maxHeartbeats 2000000 in
theorem unDo_4 (w : World) (u pb mb : Nat) (s : UnS) (hok : s.pg.ok) (h : UnitAt w u pb mb s) (hdn : s.down = false) (ep page : Int) (he : ¬ ep < s.epoch) (d : ByteArray) :
    Calls Tryz.prog 94 #[.pointer (some ⟨u, 0, none⟩), .agg #[.int .i64 4, .int .i64 x1, .int .i64 ep, .int .i64 page, .int .i64 x4, .int .i64 x5, .string d, .int .i64 x7, .slice ca cn cc]] w (DoPost w u pb mb (((s.pg.trim page).1, 0, ⟨#[]⟩, s.epoch), { s with pg := (s.pg.trim page).2 })) := by
  have H := Lib.hid h
  have c0 := h.c0
  have c1 := h.c1
  have c2 := h.c2
  rw [hdn] at c2
  have hu := cell_lt h.c0
  have hb := cell_lt h.pages.c0
  have hm := h.pages.mlt
  have he' : decide (ep < s.epoch) = false := decide_eq_false he
  clear h he hdn
  unfold DoPost
  obtain ⟨W, hW, ab, rb, xb, hab, hrb, hxb, hX⟩ : ∃ W, W = _ ∧ ∃ ab rb xb, ab = w.heap.size ∧ rb = w.heap.size + 1 ∧ xb = w.heap.size + 1 + 1 ∧ Boxed3 w W ab rb xb (.int .i64 4) (.int .i64 x1) (.int .i64 ep) (.int .i64 page) (.int .i64 x4) (.int .i64 x5) (.string d) (.int .i64 x7) (.slice ca cn cc) := ⟨_, rfl, _, _, _, rfl, rfl, rfl, boxed3 w _ _ _ _ _ _ _ _ _⟩
  have hcl := fun n : Nat => (utrim_any 4 x1 x4 x5 x7 ca cn cc (W.drewN n) u pb mb s hok (H.out.mod (F := none') (show Mod none' w (W.drewN n) from (Mod.of_below hX.below).drewN n) id id id) ep page d)
  rw [hW] at hcl
  have HW := Lib.hid hW
  have HR := Lib.hid hrb
  have HXB := Lib.hid hxb
  have HX := Lib.hid hX
  have hzW := hX.size
  have hrb2 := hX.brb
  have hxb2 := hX.bxb
  have hrx := hX.ne
  have hne1 := H.out.ne1
  have hne2 := H.out.ne2
  clear hW hab hrb hxb hX hok
  go_enter Tryz.func94, Tryz.ntmps94
  go_wp2_with fail
  refine (doing4 _).mono ?_
  rintro e w1 ⟨rfl, rfl⟩
  go_wp2_with fail
  go_quiet (fail)
  go_wp2_with fail
  refine (hcl nq).mono ?_
  clear hcl
  rintro e w4 ⟨rfl, hU4, hM4'⟩
  rw [← HW.out] at hM4'
  rw [← HXB.out, ← HR.out]
  have hM4 : Mod (fun k => k = u ∨ k = pb ∨ k = mb) W w4 := ((Mod.refl _ W).drewN _).trans hM4'
  obtain ⟨g0, g1, g2, g3, g4, g5, g6, g7, ff⟩ := HX.out.far hM4 (by omega)
  obtain ⟨y0, y1, y2, y3, y4, y5, y6, y7, gf⟩ := HX.out.farX hM4 (by omega)
  have d1 := hU4.c1
  have HU4 := Lib.hid hU4
  have HM4 := Lib.hid hM4
  clear hU4 hM4 hM4' c0 c1 c2
  have hux : u ≠ xb := by omega
  have hxu : xb ≠ u := by omega
  have hxr : xb ≠ rb := by omega
  generalize Value.agg #[.int .i64 4, .int .i64 x1, .int .i64 ep, .int .i64 page, .int .i64 x4, .int .i64 x5, .string d, .int .i64 x7, .slice ca cn cc] = av
  obtain ⟨w5, hw5⟩ : ∃ w5, w5 = ((((((((w4.setCell ⟨xb, 0, none⟩ (.int .i64 ((s.pg.trim page).1))).setCell ⟨xb, 1, none⟩ (.int .i64 (0))).setCell ⟨xb, 2, none⟩ (.string (⟨#[]⟩))).setCell ⟨xb, 3, none⟩ (.int .i64 0)).setCell ⟨xb, 4, none⟩ (.slice none 0 0)).setCell ⟨xb, 5, none⟩ (.int .i64 0)).setCell ⟨xb, 6, none⟩ (.int .i64 0)).setCell ⟨xb, 7, none⟩ (.int .i64 0)) := ⟨_, rfl⟩
  have hM5 : Mod (· = xb) w4 w5 := by
    rw [hw5]
    exact modC (Mod.refl _ _)
  have z0 : w5.cell? ⟨xb, 0, none⟩ = some (.int .i64 ((s.pg.trim page).1)) := by rw [hw5]; go_simp
  have z1 : w5.cell? ⟨xb, 1, none⟩ = some (.int .i64 (0)) := by rw [hw5]; go_simp
  have z2 : w5.cell? ⟨xb, 2, none⟩ = some (.string (⟨#[]⟩)) := by rw [hw5]; go_simp
  have z3 : w5.cell? ⟨xb, 3, none⟩ = some (.int .i64 0) := by rw [hw5]; go_simp
  have z4 : w5.cell? ⟨xb, 4, none⟩ = some (.slice none 0 0) := by rw [hw5]; go_simp
  have z5 : w5.cell? ⟨xb, 5, none⟩ = some (.int .i64 0) := by rw [hw5]; go_simp
  have z6 : w5.cell? ⟨xb, 6, none⟩ = some (.int .i64 0) := by rw [hw5]; go_simp
  have z7 : w5.cell? ⟨xb, 7, none⟩ = some (.int .i64 0) := by rw [hw5]; go_simp
  have gf5 : ∀ o, w5.frozen? ⟨xb, o, none⟩ = false := fun o => by rw [hw5]; go_simp
  have d5 := hM5.at d1 hux
  have g0' := g0
  have HW5 := Lib.hid hw5
  clear hw5 d1
  simp only [ansU]
  go_upto_region 11 with fail
  rw [← HW5.out]
  have hXM : Mod (fun k => (k = rb ∨ k = xb) ∨ k = u ∨ k = pb ∨ k = mb) W w5 := (HM4.out.mono (fun _ _ h => Or.inr h)).trans (hM5.mono (fun _ _ h => Or.inl (Or.inr h)))
  have HXM := Lib.hid hXM
  have HU5 := Lib.hid (HU4.out.mod (F := (· = xb)) hM5 hux (by omega) (by omega))
  replace g0 := hM5.at g0 hrx
  replace g1 := hM5.at g1 hrx
  replace g2 := hM5.at g2 hrx
  replace g3 := hM5.at g3 hrx
  replace g4 := hM5.at g4 hrx
  replace g5 := hM5.at g5 hrx
  replace g6 := hM5.at g6 hrx
  replace g7 := hM5.at g7 hrx
  replace ff := fun o => (hM5.frozen (p := ⟨rb, o, none⟩) (cell_lt g0') hrx).trans (ff o)
  clear y0 y1 y2 y3 y4 y5 y6 y7 gf hM5 hXM g0'
  go_wp2_with fail
  refine bodyPost_ret (v := ansU ((s.pg.trim page).1) (0) (⟨#[]⟩) (s.epoch)) (by simp only [results, Tryz.results94, ansU]; go_simp) rfl ?_
  refine ⟨rfl, HU5.out.mod (F := fun k => k = rb ∨ k = xb) (by exact modC (Mod.refl _ _)) (by omega) (by omega) (by omega), ?_⟩
  refine (mod_none (Mod.of_below HX.out.below)).trans' (show Mod (fun k => (k = rb ∨ k = xb) ∨ k = u ∨ k = pb ∨ k = mb) W _ from ?_) (fun j hj e => ?_)
  · repeat' (first | (with_reducible exact HXM.out) | (with_reducible apply Mod.setCellAt) | (with_reducible apply Mod.drew) | (intro _; first | exact Or.inl (Or.inl rfl) | exact Or.inl (Or.inr rfl)))
  · rcases e with e | e
    · omega
    · exact e
set_option maxRecDepth 100000 in
set_option maxHeartbeats 2000000 in
theorem unDo_5 (w : World) (u pb mb : Nat) (s : UnS) (hok : s.pg.ok) (h : UnitAt w u pb mb s) (hdn : s.down = false) (ep page : Int) (he : ¬ ep < s.epoch) (d : ByteArray) :
    Calls Tryz.prog 94 #[.pointer (some ⟨u, 0, none⟩), .agg #[.int .i64 5, .int .i64 x1, .int .i64 ep, .int .i64 page, .int .i64 x4, .int .i64 x5, .string d, .int .i64 x7, .slice ca cn cc]] w (DoPost w u pb mb ((0, s.pg.tail, ⟨#[]⟩, ep), { s with epoch := ep })) := by
  have H := Lib.hid h
  have c0 := h.c0
  have c1 := h.c1
  have c2 := h.c2
  rw [hdn] at c2
  have hu := cell_lt h.c0
  have hb := cell_lt h.pages.c0
  have hm := h.pages.mlt
  have he' : decide (ep < s.epoch) = false := decide_eq_false he
  clear h he hdn
  unfold DoPost
  obtain ⟨W, hW, ab, rb, xb, hab, hrb, hxb, hX⟩ : ∃ W, W = _ ∧ ∃ ab rb xb, ab = w.heap.size ∧ rb = w.heap.size + 1 ∧ xb = w.heap.size + 1 + 1 ∧ Boxed3 w W ab rb xb (.int .i64 5) (.int .i64 x1) (.int .i64 ep) (.int .i64 page) (.int .i64 x4) (.int .i64 x5) (.string d) (.int .i64 x7) (.slice ca cn cc) := ⟨_, rfl, _, _, _, rfl, rfl, rfl, boxed3 w _ _ _ _ _ _ _ _ _⟩
  have hcl := fun n : Nat => (useal_any 5 x1 x4 x5 x7 ca cn cc (W.drewN n) u pb mb s hok (H.out.mod (F := none') (show Mod none' w (W.drewN n) from (Mod.of_below hX.below).drewN n) id id id) ep page d)
  rw [hW] at hcl
  have HW := Lib.hid hW
  have HR := Lib.hid hrb
  have HXB := Lib.hid hxb
  have HX := Lib.hid hX
  have hzW := hX.size
  have hrb2 := hX.brb
  have hxb2 := hX.bxb
  have hrx := hX.ne
  have hne1 := H.out.ne1
  have hne2 := H.out.ne2
  clear hW hab hrb hxb hX hok
  go_enter Tryz.func94, Tryz.ntmps94
  go_wp2_with fail
  refine (doing5 _).mono ?_
  rintro e w1 ⟨rfl, rfl⟩
  go_wp2_with fail
  go_quiet (fail)
  go_wp2_with fail
  refine (hcl nq).mono ?_
  clear hcl
  rintro e w4 ⟨rfl, hU4, hM4'⟩
  rw [← HW.out] at hM4'
  rw [← HXB.out, ← HR.out]
  have hM4 : Mod (fun k => k = u ∨ k = pb ∨ k = mb) W w4 := ((Mod.refl _ W).drewN _).trans hM4'
  obtain ⟨g0, g1, g2, g3, g4, g5, g6, g7, ff⟩ := HX.out.far hM4 (by omega)
  obtain ⟨y0, y1, y2, y3, y4, y5, y6, y7, gf⟩ := HX.out.farX hM4 (by omega)
  have d1 := hU4.c1
  have HU4 := Lib.hid hU4
  have HM4 := Lib.hid hM4
  clear hU4 hM4 hM4' c0 c1 c2
  have hux : u ≠ xb := by omega
  have hxu : xb ≠ u := by omega
  have hxr : xb ≠ rb := by omega
  generalize Value.agg #[.int .i64 5, .int .i64 x1, .int .i64 ep, .int .i64 page, .int .i64 x4, .int .i64 x5, .string d, .int .i64 x7, .slice ca cn cc] = av
  obtain ⟨w5, hw5⟩ : ∃ w5, w5 = ((((((((w4.setCell ⟨xb, 0, none⟩ (.int .i64 (0))).setCell ⟨xb, 1, none⟩ (.int .i64 (s.pg.tail))).setCell ⟨xb, 2, none⟩ (.string (⟨#[]⟩))).setCell ⟨xb, 3, none⟩ (.int .i64 0)).setCell ⟨xb, 4, none⟩ (.slice none 0 0)).setCell ⟨xb, 5, none⟩ (.int .i64 0)).setCell ⟨xb, 6, none⟩ (.int .i64 0)).setCell ⟨xb, 7, none⟩ (.int .i64 0)) := ⟨_, rfl⟩
  have hM5 : Mod (· = xb) w4 w5 := by
    rw [hw5]
    exact modC (Mod.refl _ _)
  have z0 : w5.cell? ⟨xb, 0, none⟩ = some (.int .i64 (0)) := by rw [hw5]; go_simp
  have z1 : w5.cell? ⟨xb, 1, none⟩ = some (.int .i64 (s.pg.tail)) := by rw [hw5]; go_simp
  have z2 : w5.cell? ⟨xb, 2, none⟩ = some (.string (⟨#[]⟩)) := by rw [hw5]; go_simp
  have z3 : w5.cell? ⟨xb, 3, none⟩ = some (.int .i64 0) := by rw [hw5]; go_simp
  have z4 : w5.cell? ⟨xb, 4, none⟩ = some (.slice none 0 0) := by rw [hw5]; go_simp
  have z5 : w5.cell? ⟨xb, 5, none⟩ = some (.int .i64 0) := by rw [hw5]; go_simp
  have z6 : w5.cell? ⟨xb, 6, none⟩ = some (.int .i64 0) := by rw [hw5]; go_simp
  have z7 : w5.cell? ⟨xb, 7, none⟩ = some (.int .i64 0) := by rw [hw5]; go_simp
  have gf5 : ∀ o, w5.frozen? ⟨xb, o, none⟩ = false := fun o => by rw [hw5]; go_simp
  have d5 := hM5.at d1 hux
  have g0' := g0
  have HW5 := Lib.hid hw5
  clear hw5 d1
  simp only [ansU]
  go_upto_region 11 with fail
  rw [← HW5.out]
  have hXM : Mod (fun k => (k = rb ∨ k = xb) ∨ k = u ∨ k = pb ∨ k = mb) W w5 := (HM4.out.mono (fun _ _ h => Or.inr h)).trans (hM5.mono (fun _ _ h => Or.inl (Or.inr h)))
  have HXM := Lib.hid hXM
  have HU5 := Lib.hid (HU4.out.mod (F := (· = xb)) hM5 hux (by omega) (by omega))
  replace g0 := hM5.at g0 hrx
  replace g1 := hM5.at g1 hrx
  replace g2 := hM5.at g2 hrx
  replace g3 := hM5.at g3 hrx
  replace g4 := hM5.at g4 hrx
  replace g5 := hM5.at g5 hrx
  replace g6 := hM5.at g6 hrx
  replace g7 := hM5.at g7 hrx
  replace ff := fun o => (hM5.frozen (p := ⟨rb, o, none⟩) (cell_lt g0') hrx).trans (ff o)
  clear y0 y1 y2 y3 y4 y5 y6 y7 gf hM5 hXM g0'
  go_wp2_with fail
  refine bodyPost_ret (v := ansU (0) (s.pg.tail) (⟨#[]⟩) (ep)) (by simp only [results, Tryz.results94, ansU]; go_simp) rfl ?_
  refine ⟨rfl, HU5.out.mod (F := fun k => k = rb ∨ k = xb) (by exact modC (Mod.refl _ _)) (by omega) (by omega) (by omega), ?_⟩
  refine (mod_none (Mod.of_below HX.out.below)).trans' (show Mod (fun k => (k = rb ∨ k = xb) ∨ k = u ∨ k = pb ∨ k = mb) W _ from ?_) (fun j hj e => ?_)
  · repeat' (first | (with_reducible exact HXM.out) | (with_reducible apply Mod.setCellAt) | (with_reducible apply Mod.drew) | (intro _; first | exact Or.inl (Or.inl rfl) | exact Or.inl (Or.inr rfl)))
  · rcases e with e | e
    · omega
    · exact e
set_option maxRecDepth 100000 in
set_option maxHeartbeats 2000000 in
theorem unDo_any (k : Int) (w : World) (u pb mb : Nat) (s : UnS) (hok : s.pg.ok) (h : UnitAt w u pb mb s) (ep page : Int) (d : ByteArray) (hd : d.size ≤ 9223372036854775807) :
    Calls Tryz.prog 94 #[.pointer (some ⟨u, 0, none⟩), .agg #[.int .i64 k, .int .i64 x1, .int .i64 ep, .int .i64 page, .int .i64 x4, .int .i64 x5, .string d, .int .i64 x7, .slice ca cn cc]] w (DoPost w u pb mb (s.do k ep page d)) := by
  have H := Lib.hid h
  have c0 := h.c0
  have c1 := h.c1
  have c2 := h.c2
  have hu := cell_lt h.c0
  have hb := cell_lt h.pages.c0
  have hm := h.pages.mlt
  clear h
  unfold UnS.do DoPost
  by_cases hdn : s.down = true
  · rw [if_pos hdn]
    rw [hdn] at c2
    clear hok hdn
    go_enter Tryz.func94, Tryz.ntmps94
    go_wp2_with fail
    refine bodyPost_ret (v := ansU 45 0 ⟨#[]⟩ 0) (by simp only [results, Tryz.results94, ansU]; go_simp) rfl ?_
    exact ⟨rfl, H.out.mod (F := none') (by exact modC (Mod.refl _ _)) id id id, by exact modC (Mod.refl _ _)⟩
  · rw [if_neg hdn]
    have hdf : s.down = false := by simpa using hdn
    rw [hdf] at c2
    have Hdf := Lib.hid hdf
    clear hdn hdf
    by_cases hk : k < 1 ∨ 5 < k
    · rw [if_pos hk]
      have hdo : ∀ W, Calls Tryz.prog 109 #[.int .i64 k] W fun e w' => e = .returned .nilFunc ∧ w' = W := fun W => by
        by_cases h0 : k = 0
        · subst h0; exact doing0 W
        · exact doing_no W k (by omega)
      clear hk hok
      go_enter Tryz.func94, Tryz.ntmps94
      go_wp2_with fail
      refine (hdo _).mono ?_
      rintro e w1 ⟨rfl, rfl⟩
      go_wp2_with fail
      refine bodyPost_ret (v := ansU 1 0 ⟨#[]⟩ s.epoch) (by simp only [results, Tryz.results94, ansU]; go_simp) rfl ?_
      exact ⟨rfl, H.out.mod (F := none') (by exact modC (Mod.refl _ _)) id id id, by exact modC (Mod.refl _ _)⟩
    · rw [if_neg hk]
      by_cases he : ep < s.epoch
      · rw [if_pos he]
        obtain ⟨f, hdo⟩ : ∃ f : Nat, ∀ W, Calls Tryz.prog 109 #[.int .i64 k] W fun e w' => e = .returned (fnV f) ∧ w' = W := by
          have : k = 1 ∨ k = 2 ∨ k = 3 ∨ k = 4 ∨ k = 5 := by omega
          rcases this with rfl | rfl | rfl | rfl | rfl
          · exact ⟨_, doing1⟩
          · exact ⟨_, doing2⟩
          · exact ⟨_, doing3⟩
          · exact ⟨_, doing4⟩
          · exact ⟨_, doing5⟩
        clear hk hok
        go_enter Tryz.func94, Tryz.ntmps94
        go_wp2_with fail
        refine (hdo _).mono ?_
        rintro e w1 ⟨rfl, rfl⟩
        go_wp2_with fail
        go_quiet (fail)
        go_wp2_with fail
        refine bodyPost_ret (v := ansU 40 0 ⟨#[]⟩ s.epoch) (by simp only [results, Tryz.results94, ansU]; go_simp) rfl ?_
        exact ⟨rfl, H.out.mod (F := none') (by exact modC (Mod.refl _ _)) id id id, by exact modC (Mod.refl _ _)⟩
      · rw [if_neg he]
        have hk5 : k = 1 ∨ k = 2 ∨ k = 3 ∨ k = 4 ∨ k = 5 := by omega
        rcases hk5 with rfl | rfl | rfl | rfl | rfl
        · exact unDo_1 x1 x4 x5 x7 ca cn cc w u pb mb s hok H.out Hdf.out ep page he d hd
        · exact unDo_2 x1 x4 x5 x7 ca cn cc w u pb mb s hok H.out Hdf.out ep page he d
        · exact unDo_3 x1 x4 x5 x7 ca cn cc w u pb mb s hok H.out Hdf.out ep page he d
        · exact unDo_4 x1 x4 x5 x7 ca cn cc w u pb mb s hok H.out Hdf.out ep page he d
        · exact unDo_5 x1 x4 x5 x7 ca cn cc w u pb mb s hok H.out Hdf.out ep page he d
end
end Go.Proofs.YtghdhhbpbmhooaaGreat
