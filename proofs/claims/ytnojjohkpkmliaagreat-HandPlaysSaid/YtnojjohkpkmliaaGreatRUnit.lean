/- the document's unit -/
import Derived.Test.YtnojjohkpkmliaaGreatRPage3
import Derived.Test.YtnojjohkpkmliaaGreatUnit3
namespace Go.Proofs.YtnojjohkpkmliaaGreat
open Go.RowKit Esch

structure RUnAt (w : World) (u pb : Nat) (S : Nat → Prop) (s : UnS) : Prop where
  c0 : w.cell? ⟨u, 0, none⟩ = some (.pointer (some ⟨pb, 0, none⟩))
  c1 : w.cell? ⟨u, 1, none⟩ = some (.int .i64 s.epoch)
  c2 : w.cell? ⟨u, 2, none⟩ = some (.bool s.down)
  fr : ∀ o, o < 3 → w.frozen? ⟨u, o, none⟩ = false
  pg : RPgAt w pb S s.pg
  ne : u ≠ pb
  su : ¬ S u
  sp : ¬ S pb
theorem RUnAt.lt {w : World} {u pb : Nat} {S : Nat → Prop} {s : UnS} (h : RUnAt w u pb S s) : u < w.heap.size := cell_lt h.c0
theorem RUnAt.mod {F S : Nat → Prop} {w w' : World} {u pb : Nat} {s : UnS} (h : RUnAt w u pb S s) (hM : Mod F w w') (hu : ¬ F u) (hp : ¬ F pb) (hS : ∀ k, S k → k < w.heap.size → ¬ F k) : RUnAt w' u pb S s :=
  ⟨hM.at h.c0 hu, hM.at h.c1 hu, hM.at h.c2 hu, fun o ho => (hM.frozen (p := ⟨u, o, none⟩) h.lt hu).trans (h.fr o ho), h.pg.mod hM hp hS, h.ne, h.su, h.sp⟩
theorem RUnAt.sub {S S' : Nat → Prop} {w : World} {u pb : Nat} {s : UnS} (h : RUnAt w u pb S s) (hS : ∀ k, k < w.heap.size → S k → S' k) (hu : ¬ S' u) (hp : ¬ S' pb) : RUnAt w u pb S' s := ⟨h.c0, h.c1, h.c2, h.fr, h.pg.sub hS, h.ne, hu, hp⟩
theorem RUnAt.withPg {S : Nat → Prop} {w W w' : World} {u pb : Nat} {s : UnS} {p : PgS} (h : RUnAt w u pb S s) (hB : Below w.heap.size w W) (hM : Mod (· = pb) W w') (hp : RPgAt w' pb (fun k => S k ∨ W.heap.size ≤ k) p) : RUnAt w' u pb (fun k => S k ∨ W.heap.size ≤ k) { s with pg := p } := by
  have hz := hB.size
  have hu := h.lt
  have hpl := h.pg.lt
  refine ⟨hM.at (below_at hB h.c0 hu) h.ne, hM.at (below_at hB h.c1 hu) h.ne, hM.at (below_at hB h.c2 hu) h.ne, fun o ho => ?_, hp, h.ne, fun hk => ?_, fun hk => ?_⟩
  · rw [hM.frozen (p := ⟨u, o, none⟩) (Nat.lt_of_lt_of_le hu hz) h.ne, hB.frozen (p := ⟨u, o, none⟩) hu]; exact h.fr o ho
  · rcases hk with hk | hk
    · exact h.su hk
    · omega
  · rcases hk with hk | hk
    · exact h.sp hk
    · omega
def RUnPost (w : World) (u pb : Nat) (S : Nat → Prop) (r : (Int × Int × ByteArray × Int) × UnS) (e : Ending) (w' : World) : Prop := e = .returned (ansU r.1.1 r.1.2.1 r.1.2.2.1 r.1.2.2.2) ∧ RUnAt w' u pb (fun k => S k ∨ w.heap.size ≤ k) r.2 ∧ Mod (fun k => k = u ∨ k = pb) w w'
/-- the boxes of a question, of an answer, and of an answer with an epoch -/
structure Boxed4 (w W : World) (ab rb xb : Nat) (a0 a1 a2 a3 a4 a5 a6 a7 a8 : Value) (ep : Int) : Prop where
  below : Below w.heap.size w W
  size : W.heap.size = w.heap.size + 3
  bab : w.heap.size ≤ ab ∧ ab < W.heap.size
  brb : w.heap.size ≤ rb ∧ rb < W.heap.size
  bxb : w.heap.size ≤ xb ∧ xb < W.heap.size
  ne : rb ≠ xb
  q0 : W.cell? ⟨ab, 0, none⟩ = some a0
  q1 : W.cell? ⟨ab, 1, none⟩ = some a1
  q2 : W.cell? ⟨ab, 2, none⟩ = some a2
  q3 : W.cell? ⟨ab, 3, none⟩ = some a3
  q4 : W.cell? ⟨ab, 4, none⟩ = some a4
  q5 : W.cell? ⟨ab, 5, none⟩ = some a5
  q6 : W.cell? ⟨ab, 6, none⟩ = some a6
  q7 : W.cell? ⟨ab, 7, none⟩ = some a7
  q8 : W.cell? ⟨ab, 8, none⟩ = some a8
  r0 : W.cell? ⟨rb, 0, none⟩ = some (.int .i64 0)
  r1 : W.cell? ⟨rb, 1, none⟩ = some (.int .i64 0)
  r2 : W.cell? ⟨rb, 2, none⟩ = some (.string ⟨#[]⟩)
  r3 : W.cell? ⟨rb, 3, none⟩ = some (.int .i64 0)
  r4 : W.cell? ⟨rb, 4, none⟩ = some (.slice none 0 0)
  r5 : W.cell? ⟨rb, 5, none⟩ = some (.int .i64 0)
  r6 : W.cell? ⟨rb, 6, none⟩ = some (.int .i64 0)
  r7 : W.cell? ⟨rb, 7, none⟩ = some (.int .i64 0)
  ff : ∀ o, W.frozen? ⟨rb, o, none⟩ = false
  y0 : W.cell? ⟨xb, 0, none⟩ = some (.int .i64 0)
  y1 : W.cell? ⟨xb, 1, none⟩ = some (.int .i64 0)
  y2 : W.cell? ⟨xb, 2, none⟩ = some (.string ⟨#[]⟩)
  y3 : W.cell? ⟨xb, 3, none⟩ = some (.int .i64 0)
  y4 : W.cell? ⟨xb, 4, none⟩ = some (.slice none 0 0)
  y5 : W.cell? ⟨xb, 5, none⟩ = some (.int .i64 0)
  y6 : W.cell? ⟨xb, 6, none⟩ = some (.int .i64 0)
  y7 : W.cell? ⟨xb, 7, none⟩ = some (.int .i64 ep)
  gf : ∀ o, W.frozen? ⟨xb, o, none⟩ = false
set_option maxHeartbeats 1000000 in
theorem boxed4 (w : World) (a0 a1 a2 a3 a4 a5 a6 a7 a8 : Value) (ep : Int) : Boxed4 w (((w.alloc (.cells #[a0, a1, a2, a3, a4, a5, a6, a7, a8] 42)).alloc (.cells #[.int .i64 0, .int .i64 0, .string ⟨#[]⟩, .int .i64 0, .slice none 0 0, .int .i64 0, .int .i64 0, .int .i64 0] 39)).alloc (.cells #[.int .i64 0, .int .i64 0, .string ⟨#[]⟩, .int .i64 0, .slice none 0 0, .int .i64 0, .int .i64 0, .int .i64 ep] 39)) w.heap.size (w.heap.size + 1) (w.heap.size + 1 + 1) a0 a1 a2 a3 a4 a5 a6 a7 a8 ep := by
  constructor
  case below => (repeat (first | with_reducible exact (Below.refl _ _) | with_reducible refine Below.drew ?_ | with_reducible refine Esch.below_drewN ?_ _ | with_reducible refine Below.setCell ?_ (by first | omega | (simp; done) | (simp; omega)) _ | with_reducible refine Below.alloc ?_ (by first | omega | (simp; done) | (simp; omega)) _))
  case size => simp
  case bab => exact ⟨by omega, by first | (simp; done) | (simp; omega)⟩
  case brb => exact ⟨by omega, by first | (simp; done) | (simp; omega)⟩
  case bxb => exact ⟨by omega, by first | (simp; done) | (simp; omega)⟩
  case ne => omega
  case ff => intro o; go_simp
  case gf => intro o; go_simp
  all_goals go_simp
theorem Boxed4.far {w W W' : World} {ab rb xb : Nat} {a0 a1 a2 a3 a4 a5 a6 a7 a8 : Value} {ep : Int} (h : Boxed4 w W ab rb xb a0 a1 a2 a3 a4 a5 a6 a7 a8 ep) {F : Nat → Prop} (hM : Mod F W W') (hF : ¬ F rb) (hX : ¬ F xb) :
    (W'.cell? ⟨rb, 0, none⟩ = some (.int .i64 0) ∧ W'.cell? ⟨rb, 1, none⟩ = some (.int .i64 0) ∧ W'.cell? ⟨rb, 2, none⟩ = some (.string ⟨#[]⟩) ∧ W'.cell? ⟨rb, 3, none⟩ = some (.int .i64 0) ∧ W'.cell? ⟨rb, 4, none⟩ = some (.slice none 0 0) ∧ W'.cell? ⟨rb, 5, none⟩ = some (.int .i64 0) ∧ W'.cell? ⟨rb, 6, none⟩ = some (.int .i64 0) ∧ W'.cell? ⟨rb, 7, none⟩ = some (.int .i64 0)) ∧
    (W'.cell? ⟨xb, 0, none⟩ = some (.int .i64 0) ∧ W'.cell? ⟨xb, 1, none⟩ = some (.int .i64 0) ∧ W'.cell? ⟨xb, 2, none⟩ = some (.string ⟨#[]⟩) ∧ W'.cell? ⟨xb, 3, none⟩ = some (.int .i64 0) ∧ W'.cell? ⟨xb, 4, none⟩ = some (.slice none 0 0) ∧ W'.cell? ⟨xb, 5, none⟩ = some (.int .i64 0) ∧ W'.cell? ⟨xb, 6, none⟩ = some (.int .i64 0) ∧ W'.cell? ⟨xb, 7, none⟩ = some (.int .i64 ep)) ∧
    (∀ o, W'.frozen? ⟨rb, o, none⟩ = false) ∧ ∀ o, W'.frozen? ⟨xb, o, none⟩ = false :=
  ⟨⟨hM.at h.r0 hF, hM.at h.r1 hF, hM.at h.r2 hF, hM.at h.r3 hF, hM.at h.r4 hF, hM.at h.r5 hF, hM.at h.r6 hF, hM.at h.r7 hF⟩, ⟨hM.at h.y0 hX, hM.at h.y1 hX, hM.at h.y2 hX, hM.at h.y3 hX, hM.at h.y4 hX, hM.at h.y5 hX, hM.at h.y6 hX, hM.at h.y7 hX⟩, fun o => (hM.frozen (p := ⟨rb, o, none⟩) h.brb.2 hF).trans (h.ff o), fun o => (hM.frozen (p := ⟨xb, o, none⟩) h.bxb.2 hX).trans (h.gf o)⟩
section
variable (x1 x4 x5 x7 : Int) (ca : Option Addr) (cn cc : Nat)
set_option maxRecDepth 100000 in
set_option maxHeartbeats 2000000 in
theorem rdo_1 {w : World} {u pb : Nat} {S : Nat → Prop} {s : UnS} (h : RUnAt w u pb S s) (hok : s.pg.ok) (hSl : ∀ k, S k → k < w.heap.size) (hdn : s.down = false) (ep page : Int) (he : ¬ ep < s.epoch) (d : ByteArray) (hd : d.size ≤ 9223372036854775807) :
    Calls Tryz.prog 43 #[.pointer (some ⟨u, 0, none⟩), .agg #[.int .i64 1, .int .i64 x1, .int .i64 ep, .int .i64 page, .int .i64 x4, .int .i64 x5, .string d, .int .i64 x7, .slice ca cn cc]] w
      (RUnPost w u pb S (((s.pg.write page d).1, 0, ⟨#[]⟩, s.epoch), { s with pg := (s.pg.write page d).2 })) := by
  have he' : s.epoch ≤ ep := by omega
  have HSN := Lib.hid (show ∀ k, S k → ¬ (k = w.heap.size + 1 ∨ k = w.heap.size + 1 + 1) from fun k hk e => by have := hSl k hk; omega)
  clear he hSl
  obtain ⟨W, hW, ab, rb, xb, hab, hrb, hxb, hX⟩ : ∃ W, W = _ ∧ ∃ ab rb xb, ab = w.heap.size ∧ rb = w.heap.size + 1 ∧ xb = w.heap.size + 1 + 1 ∧ Boxed4 w W ab rb xb (.int .i64 1) (.int .i64 x1) (.int .i64 ep) (.int .i64 page) (.int .i64 x4) (.int .i64 x5) (.string d) (.int .i64 x7) (.slice ca cn cc) s.epoch := ⟨_, rfl, _, _, _, rfl, rfl, rfl, boxed4 w _ _ _ _ _ _ _ _ _ _⟩
  have HW := Lib.hid hW
  have HA := Lib.hid hab
  have HRB := Lib.hid hrb
  have HXB := Lib.hid hxb
  have hl := h.lt
  have hpl := h.pg.lt
  have c0 := h.c0
  have c1 := h.c1
  have c2 := h.c2
  have u0 := below_at hX.below c0 hl
  have u1 := below_at hX.below c1 hl
  have uf1 := (hX.below.frozen (p := ⟨u, 1, none⟩) hl).trans (h.fr 1 (by decide))
  have q0 := hX.q0
  have q2 := hX.q2
  have q3 := hX.q3
  have q6 := hX.q6
  have H := Lib.hid h
  have HPW := Lib.hid (h.pg.below hX.below)
  have HPD := Lib.hid (show RPgAt W.drew.drew pb S s.pg from HPW.out.mod (F := none') ((Mod.refl _ W).drew.drew) id (fun _ _ _ => id))
  have Hok := Lib.hid hok
  have HX := Lib.hid hX
  have hzW := hX.size
  have hrb2 := hX.brb
  have hxb2 := hX.bxb
  have hab2 := hX.bab
  have hne := hX.ne
  have hax : ab ≠ xb := by omega
  have har : ab ≠ rb := by omega
  rw [hdn] at c2
  clear h hok hW hab hrb hxb hX
  go_enter Tryz.func43, Tryz.ntmps43
  go_wp2_with fail
  rw [← HW.out, ← HXB.out, ← HRB.out, ← HA.out]
  clear c0 c1 c2
  go_region
  go_wp2_with fail
  have hKd : W.drew.drew.cell? ⟨u, 0, none⟩ = some (.pointer (some ⟨pb, 0, none⟩)) ∧ W.drew.drew.cell? ⟨ab, 3, none⟩ = some (.int .i64 page) ∧ W.drew.drew.cell? ⟨ab, 6, none⟩ = some (.string d) := ⟨u0, q3, q6⟩
  have hrd := rwrite_any HPD.out Hok.out page d hd
  go_region_held3 (fun W' => W'.cell? ⟨u, 0, none⟩ = some (.pointer (some ⟨pb, 0, none⟩)) ∧ W'.cell? ⟨ab, 3, none⟩ = some (.int .i64 page) ∧ W'.cell? ⟨ab, 6, none⟩ = some (.string d))
    (first
      | with_reducible exact hKd
      | with_reducible exact hK3
      | with_reducible exact hK4 _)
    (first
      | (go_at_call 74; (with_reducible refine hrd.mono ?_); rintro e w3 ⟨rfl, hP3, hM3'⟩
         have hM3 : Mod (· = pb) W w3 := Mod.trans (by (repeat' (first | (with_reducible exact (Mod.refl _ _)) | (with_reducible apply Mod.drew) | (with_reducible apply Mod.drewN) | (with_reducible apply Mod.alloc) | (with_reducible apply Mod.setCellAt) | (intro _; first | rfl | exact Or.inl rfl | exact Or.inr rfl) | (intro h; exfalso; omega)))) hM3'
         have hK3 : w3.cell? ⟨u, 0, none⟩ = some (.pointer (some ⟨pb, 0, none⟩)) ∧ w3.cell? ⟨ab, 3, none⟩ = some (.int .i64 page) ∧ w3.cell? ⟨ab, 6, none⟩ = some (.string d) := ⟨hM3.at u0 H.out.ne, hM3.at q3 (by omega), hM3.at q6 (by omega)⟩
         have hK4 : ∀ v, (w3.setCell ⟨xb, 0, none⟩ v).cell? ⟨u, 0, none⟩ = some (.pointer (some ⟨pb, 0, none⟩)) ∧ (w3.setCell ⟨xb, 0, none⟩ v).cell? ⟨ab, 3, none⟩ = some (.int .i64 page) ∧ (w3.setCell ⟨xb, 0, none⟩ v).cell? ⟨ab, 6, none⟩ = some (.string d) := fun v => have hm : Mod (· = xb) w3 (w3.setCell ⟨xb, 0, none⟩ v) := (Mod.refl (· = xb) w3).setCellAt (fun _ => rfl) _
           ⟨hm.at hK3.1 (by omega), hm.at hK3.2.1 (by omega), hm.at hK3.2.2 (by omega)⟩
         have HU3 := Lib.hid (H.out.withPg HX.out.below hM3 hP3)
         obtain ⟨⟨g0, g1, g2, g3, g4, g5, g6, g7⟩, ⟨y0, y1, y2, y3, y4, y5, y6, y7⟩, ff, gf⟩ := HX.out.far hM3 (by omega) (by omega)
         have ff0 := ff 0
         have ff1 := ff 1
         have ff2 := ff 2
         have ff3 := ff 3
         have ff4 := ff 4
         have ff5 := ff 5
         have ff6 := ff 6
         have ff7 := ff 7
         have gf0 := gf 0
         have gf1 := gf 1
         have gf2 := gf 2
         have gf3 := gf 3
         have gf4 := gf 4
         have gf5 := gf 5
         have gf6 := gf 6
         have gf7 := gf 7
         clear hrd hM3' hP3 ff gf))
  clear hK3 hKd hK4
  have HMW := Lib.hid (show Mod (· = pb) W w3 from Mod.trans (by (repeat' (first | (with_reducible exact (Mod.refl _ _)) | (with_reducible apply Mod.drew) | (with_reducible apply Mod.drewN) | (with_reducible apply Mod.alloc) | (with_reducible apply Mod.setCellAt) | (intro _; first | rfl | exact Or.inl rfl | exact Or.inr rfl) | (intro h; exfalso; omega)))) hM3)
  clear hM3 u0 u1 uf1 q0 q2 q3 q6
  go_wp2_with fail
  refine bodyPost_ret (v := ansU ((s.pg.write page d).1) (0) (⟨#[]⟩) (s.epoch)) (by simp only [results, Tryz.results43, ansU]; go_simp) rfl ?_
  refine ⟨rfl, ((HU3.out.mod (F := fun k => k = rb ∨ k = xb) ?_ (by omega) (by omega) (fun k hk hkl e => ?_)).sub (fun k _ hk => hk.imp id (fun h => by omega)) (fun hk => ?_) (fun hk => ?_)), ?_⟩
  · repeat (with_reducible refine Mod.setCellAt ?_ (fun _ => by first | exact Or.inl rfl | exact Or.inr rfl) _)
    exact Mod.refl _ _
  · rcases hk with hk | hk
    · exact HSN.out k hk (e.imp (fun e => e.trans HRB.out) (fun e => e.trans HXB.out))
    · omega
  · rcases hk with hk | hk
    · exact H.out.su hk
    · omega
  · rcases hk with hk | hk
    · exact H.out.sp hk
    · omega
  · refine (mod_none (Mod.of_below HX.out.below)).trans' (show Mod (fun k => (k = rb ∨ k = xb) ∨ k = pb) W _ from ?_) (fun j hj e => ?_)
    · repeat (with_reducible refine Mod.setCellAt ?_ (fun _ => by first | exact Or.inl (Or.inl rfl) | exact Or.inl (Or.inr rfl)) _)
      exact HMW.out.mono (fun _ _ h => Or.inr h)
    · rcases e with e | e
      · omega
      · exact Or.inr e
set_option maxRecDepth 100000 in
set_option maxHeartbeats 2000000 in
theorem rdo_2 {w : World} {u pb : Nat} {S : Nat → Prop} {s : UnS} (h : RUnAt w u pb S s) (hok : s.pg.ok) (hSl : ∀ k, S k → k < w.heap.size) (hdn : s.down = false) (ep page : Int) (he : ¬ ep < s.epoch) (d : ByteArray) :
    Calls Tryz.prog 43 #[.pointer (some ⟨u, 0, none⟩), .agg #[.int .i64 2, .int .i64 x1, .int .i64 ep, .int .i64 page, .int .i64 x4, .int .i64 x5, .string d, .int .i64 x7, .slice ca cn cc]] w
      (RUnPost w u pb S (((s.pg.fill page).1, 0, ⟨#[]⟩, s.epoch), { s with pg := (s.pg.fill page).2 })) := by
  have he' : s.epoch ≤ ep := by omega
  have HSN := Lib.hid (show ∀ k, S k → ¬ (k = w.heap.size + 1 ∨ k = w.heap.size + 1 + 1) from fun k hk e => by have := hSl k hk; omega)
  clear he hSl
  obtain ⟨W, hW, ab, rb, xb, hab, hrb, hxb, hX⟩ : ∃ W, W = _ ∧ ∃ ab rb xb, ab = w.heap.size ∧ rb = w.heap.size + 1 ∧ xb = w.heap.size + 1 + 1 ∧ Boxed4 w W ab rb xb (.int .i64 2) (.int .i64 x1) (.int .i64 ep) (.int .i64 page) (.int .i64 x4) (.int .i64 x5) (.string d) (.int .i64 x7) (.slice ca cn cc) s.epoch := ⟨_, rfl, _, _, _, rfl, rfl, rfl, boxed4 w _ _ _ _ _ _ _ _ _ _⟩
  have HW := Lib.hid hW
  have HA := Lib.hid hab
  have HRB := Lib.hid hrb
  have HXB := Lib.hid hxb
  have hl := h.lt
  have hpl := h.pg.lt
  have c0 := h.c0
  have c1 := h.c1
  have c2 := h.c2
  have u0 := below_at hX.below c0 hl
  have u1 := below_at hX.below c1 hl
  have uf1 := (hX.below.frozen (p := ⟨u, 1, none⟩) hl).trans (h.fr 1 (by decide))
  have q0 := hX.q0
  have q2 := hX.q2
  have q3 := hX.q3
  have q6 := hX.q6
  have H := Lib.hid h
  have HPW := Lib.hid (h.pg.below hX.below)
  have HPD := Lib.hid (show RPgAt W.drew.drew pb S s.pg from HPW.out.mod (F := none') ((Mod.refl _ W).drew.drew) id (fun _ _ _ => id))
  have Hok := Lib.hid hok
  have HX := Lib.hid hX
  have hzW := hX.size
  have hrb2 := hX.brb
  have hxb2 := hX.bxb
  have hab2 := hX.bab
  have hne := hX.ne
  have hax : ab ≠ xb := by omega
  have har : ab ≠ rb := by omega
  rw [hdn] at c2
  clear h hok hW hab hrb hxb hX
  go_enter Tryz.func43, Tryz.ntmps43
  go_wp2_with fail
  rw [← HW.out, ← HXB.out, ← HRB.out, ← HA.out]
  clear c0 c1 c2
  go_region
  go_wp2_with fail
  have hKd : W.drew.drew.cell? ⟨u, 0, none⟩ = some (.pointer (some ⟨pb, 0, none⟩)) ∧ W.drew.drew.cell? ⟨ab, 3, none⟩ = some (.int .i64 page) ∧ W.drew.drew.cell? ⟨ab, 6, none⟩ = some (.string d) := ⟨u0, q3, q6⟩
  have hrd := rfill_any HPD.out Hok.out page
  go_region_held3 (fun W' => W'.cell? ⟨u, 0, none⟩ = some (.pointer (some ⟨pb, 0, none⟩)) ∧ W'.cell? ⟨ab, 3, none⟩ = some (.int .i64 page) ∧ W'.cell? ⟨ab, 6, none⟩ = some (.string d))
    (first
      | with_reducible exact hKd
      | with_reducible exact hK3
      | with_reducible exact hK4 _)
    (first
      | (go_at_call 75; (with_reducible refine hrd.mono ?_); rintro e w3 ⟨rfl, hP3, hM3'⟩
         have hM3 : Mod (· = pb) W w3 := Mod.trans (by (repeat' (first | (with_reducible exact (Mod.refl _ _)) | (with_reducible apply Mod.drew) | (with_reducible apply Mod.drewN) | (with_reducible apply Mod.alloc) | (with_reducible apply Mod.setCellAt) | (intro _; first | rfl | exact Or.inl rfl | exact Or.inr rfl) | (intro h; exfalso; omega)))) hM3'
         have hK3 : w3.cell? ⟨u, 0, none⟩ = some (.pointer (some ⟨pb, 0, none⟩)) ∧ w3.cell? ⟨ab, 3, none⟩ = some (.int .i64 page) ∧ w3.cell? ⟨ab, 6, none⟩ = some (.string d) := ⟨hM3.at u0 H.out.ne, hM3.at q3 (by omega), hM3.at q6 (by omega)⟩
         have hK4 : ∀ v, (w3.setCell ⟨xb, 0, none⟩ v).cell? ⟨u, 0, none⟩ = some (.pointer (some ⟨pb, 0, none⟩)) ∧ (w3.setCell ⟨xb, 0, none⟩ v).cell? ⟨ab, 3, none⟩ = some (.int .i64 page) ∧ (w3.setCell ⟨xb, 0, none⟩ v).cell? ⟨ab, 6, none⟩ = some (.string d) := fun v => have hm : Mod (· = xb) w3 (w3.setCell ⟨xb, 0, none⟩ v) := (Mod.refl (· = xb) w3).setCellAt (fun _ => rfl) _
           ⟨hm.at hK3.1 (by omega), hm.at hK3.2.1 (by omega), hm.at hK3.2.2 (by omega)⟩
         have HU3 := Lib.hid (H.out.withPg HX.out.below hM3 hP3)
         obtain ⟨⟨g0, g1, g2, g3, g4, g5, g6, g7⟩, ⟨y0, y1, y2, y3, y4, y5, y6, y7⟩, ff, gf⟩ := HX.out.far hM3 (by omega) (by omega)
         have ff0 := ff 0
         have ff1 := ff 1
         have ff2 := ff 2
         have ff3 := ff 3
         have ff4 := ff 4
         have ff5 := ff 5
         have ff6 := ff 6
         have ff7 := ff 7
         have gf0 := gf 0
         have gf1 := gf 1
         have gf2 := gf 2
         have gf3 := gf 3
         have gf4 := gf 4
         have gf5 := gf 5
         have gf6 := gf 6
         have gf7 := gf 7
         clear hrd hM3' hP3 ff gf))
  clear hK3 hKd hK4
  have HMW := Lib.hid (show Mod (· = pb) W w3 from Mod.trans (by (repeat' (first | (with_reducible exact (Mod.refl _ _)) | (with_reducible apply Mod.drew) | (with_reducible apply Mod.drewN) | (with_reducible apply Mod.alloc) | (with_reducible apply Mod.setCellAt) | (intro _; first | rfl | exact Or.inl rfl | exact Or.inr rfl) | (intro h; exfalso; omega)))) hM3)
  clear hM3 u0 u1 uf1 q0 q2 q3 q6
  go_wp2_with fail
  refine bodyPost_ret (v := ansU ((s.pg.fill page).1) (0) (⟨#[]⟩) (s.epoch)) (by simp only [results, Tryz.results43, ansU]; go_simp) rfl ?_
  refine ⟨rfl, ((HU3.out.mod (F := fun k => k = rb ∨ k = xb) ?_ (by omega) (by omega) (fun k hk hkl e => ?_)).sub (fun k _ hk => hk.imp id (fun h => by omega)) (fun hk => ?_) (fun hk => ?_)), ?_⟩
  · repeat (with_reducible refine Mod.setCellAt ?_ (fun _ => by first | exact Or.inl rfl | exact Or.inr rfl) _)
    exact Mod.refl _ _
  · rcases hk with hk | hk
    · exact HSN.out k hk (e.imp (fun e => e.trans HRB.out) (fun e => e.trans HXB.out))
    · omega
  · rcases hk with hk | hk
    · exact H.out.su hk
    · omega
  · rcases hk with hk | hk
    · exact H.out.sp hk
    · omega
  · refine (mod_none (Mod.of_below HX.out.below)).trans' (show Mod (fun k => (k = rb ∨ k = xb) ∨ k = pb) W _ from ?_) (fun j hj e => ?_)
    · repeat (with_reducible refine Mod.setCellAt ?_ (fun _ => by first | exact Or.inl (Or.inl rfl) | exact Or.inl (Or.inr rfl)) _)
      exact HMW.out.mono (fun _ _ h => Or.inr h)
    · rcases e with e | e
      · omega
      · exact Or.inr e
set_option maxRecDepth 100000 in
set_option maxHeartbeats 2000000 in
theorem rdo_4 {w : World} {u pb : Nat} {S : Nat → Prop} {s : UnS} (h : RUnAt w u pb S s) (hok : s.pg.ok) (hSl : ∀ k, S k → k < w.heap.size) (hdn : s.down = false) (ep page : Int) (he : ¬ ep < s.epoch) (d : ByteArray) :
    Calls Tryz.prog 43 #[.pointer (some ⟨u, 0, none⟩), .agg #[.int .i64 4, .int .i64 x1, .int .i64 ep, .int .i64 page, .int .i64 x4, .int .i64 x5, .string d, .int .i64 x7, .slice ca cn cc]] w
      (RUnPost w u pb S (((s.pg.trim page).1, 0, ⟨#[]⟩, s.epoch), { s with pg := (s.pg.trim page).2 })) := by
  have he' : s.epoch ≤ ep := by omega
  have HSN := Lib.hid (show ∀ k, S k → ¬ (k = w.heap.size + 1 ∨ k = w.heap.size + 1 + 1) from fun k hk e => by have := hSl k hk; omega)
  clear he hSl
  obtain ⟨W, hW, ab, rb, xb, hab, hrb, hxb, hX⟩ : ∃ W, W = _ ∧ ∃ ab rb xb, ab = w.heap.size ∧ rb = w.heap.size + 1 ∧ xb = w.heap.size + 1 + 1 ∧ Boxed4 w W ab rb xb (.int .i64 4) (.int .i64 x1) (.int .i64 ep) (.int .i64 page) (.int .i64 x4) (.int .i64 x5) (.string d) (.int .i64 x7) (.slice ca cn cc) s.epoch := ⟨_, rfl, _, _, _, rfl, rfl, rfl, boxed4 w _ _ _ _ _ _ _ _ _ _⟩
  have HW := Lib.hid hW
  have HA := Lib.hid hab
  have HRB := Lib.hid hrb
  have HXB := Lib.hid hxb
  have hl := h.lt
  have hpl := h.pg.lt
  have c0 := h.c0
  have c1 := h.c1
  have c2 := h.c2
  have u0 := below_at hX.below c0 hl
  have u1 := below_at hX.below c1 hl
  have uf1 := (hX.below.frozen (p := ⟨u, 1, none⟩) hl).trans (h.fr 1 (by decide))
  have q0 := hX.q0
  have q2 := hX.q2
  have q3 := hX.q3
  have q6 := hX.q6
  have H := Lib.hid h
  have HPW := Lib.hid (h.pg.below hX.below)
  have HPD := Lib.hid (show RPgAt W.drew.drew pb S s.pg from HPW.out.mod (F := none') ((Mod.refl _ W).drew.drew) id (fun _ _ _ => id))
  have Hok := Lib.hid hok
  have HX := Lib.hid hX
  have hzW := hX.size
  have hrb2 := hX.brb
  have hxb2 := hX.bxb
  have hab2 := hX.bab
  have hne := hX.ne
  have hax : ab ≠ xb := by omega
  have har : ab ≠ rb := by omega
  rw [hdn] at c2
  clear h hok hW hab hrb hxb hX
  go_enter Tryz.func43, Tryz.ntmps43
  go_wp2_with fail
  rw [← HW.out, ← HXB.out, ← HRB.out, ← HA.out]
  clear c0 c1 c2
  go_region
  go_wp2_with fail
  have hKd : W.drew.drew.cell? ⟨u, 0, none⟩ = some (.pointer (some ⟨pb, 0, none⟩)) ∧ W.drew.drew.cell? ⟨ab, 3, none⟩ = some (.int .i64 page) ∧ W.drew.drew.cell? ⟨ab, 6, none⟩ = some (.string d) := ⟨u0, q3, q6⟩
  have hrd := rtrim_any HPD.out H.out.sp Hok.out page
  go_region_held3 (fun W' => W'.cell? ⟨u, 0, none⟩ = some (.pointer (some ⟨pb, 0, none⟩)) ∧ W'.cell? ⟨ab, 3, none⟩ = some (.int .i64 page) ∧ W'.cell? ⟨ab, 6, none⟩ = some (.string d))
    (first
      | with_reducible exact hKd
      | with_reducible exact hK3
      | with_reducible exact hK4 _)
    (first
      | (go_at_call 77; (with_reducible refine hrd.mono ?_); rintro e w3 ⟨rfl, hP3, hM3'⟩
         have hM3 : Mod (· = pb) W w3 := Mod.trans (by (repeat' (first | (with_reducible exact (Mod.refl _ _)) | (with_reducible apply Mod.drew) | (with_reducible apply Mod.drewN) | (with_reducible apply Mod.alloc) | (with_reducible apply Mod.setCellAt) | (intro _; first | rfl | exact Or.inl rfl | exact Or.inr rfl) | (intro h; exfalso; omega)))) hM3'
         have hK3 : w3.cell? ⟨u, 0, none⟩ = some (.pointer (some ⟨pb, 0, none⟩)) ∧ w3.cell? ⟨ab, 3, none⟩ = some (.int .i64 page) ∧ w3.cell? ⟨ab, 6, none⟩ = some (.string d) := ⟨hM3.at u0 H.out.ne, hM3.at q3 (by omega), hM3.at q6 (by omega)⟩
         have hK4 : ∀ v, (w3.setCell ⟨xb, 0, none⟩ v).cell? ⟨u, 0, none⟩ = some (.pointer (some ⟨pb, 0, none⟩)) ∧ (w3.setCell ⟨xb, 0, none⟩ v).cell? ⟨ab, 3, none⟩ = some (.int .i64 page) ∧ (w3.setCell ⟨xb, 0, none⟩ v).cell? ⟨ab, 6, none⟩ = some (.string d) := fun v => have hm : Mod (· = xb) w3 (w3.setCell ⟨xb, 0, none⟩ v) := (Mod.refl (· = xb) w3).setCellAt (fun _ => rfl) _
           ⟨hm.at hK3.1 (by omega), hm.at hK3.2.1 (by omega), hm.at hK3.2.2 (by omega)⟩
         have HU3 := Lib.hid (H.out.withPg HX.out.below hM3 hP3)
         obtain ⟨⟨g0, g1, g2, g3, g4, g5, g6, g7⟩, ⟨y0, y1, y2, y3, y4, y5, y6, y7⟩, ff, gf⟩ := HX.out.far hM3 (by omega) (by omega)
         have ff0 := ff 0
         have ff1 := ff 1
         have ff2 := ff 2
         have ff3 := ff 3
         have ff4 := ff 4
         have ff5 := ff 5
         have ff6 := ff 6
         have ff7 := ff 7
         have gf0 := gf 0
         have gf1 := gf 1
         have gf2 := gf 2
         have gf3 := gf 3
         have gf4 := gf 4
         have gf5 := gf 5
         have gf6 := gf 6
         have gf7 := gf 7
         clear hrd hM3' hP3 ff gf))
  clear hK3 hKd hK4
  have HMW := Lib.hid (show Mod (· = pb) W w3 from Mod.trans (by (repeat' (first | (with_reducible exact (Mod.refl _ _)) | (with_reducible apply Mod.drew) | (with_reducible apply Mod.drewN) | (with_reducible apply Mod.alloc) | (with_reducible apply Mod.setCellAt) | (intro _; first | rfl | exact Or.inl rfl | exact Or.inr rfl) | (intro h; exfalso; omega)))) hM3)
  clear hM3 u0 u1 uf1 q0 q2 q3 q6
  go_wp2_with fail
  refine bodyPost_ret (v := ansU ((s.pg.trim page).1) (0) (⟨#[]⟩) (s.epoch)) (by simp only [results, Tryz.results43, ansU]; go_simp) rfl ?_
  refine ⟨rfl, ((HU3.out.mod (F := fun k => k = rb ∨ k = xb) ?_ (by omega) (by omega) (fun k hk hkl e => ?_)).sub (fun k _ hk => hk.imp id (fun h => by omega)) (fun hk => ?_) (fun hk => ?_)), ?_⟩
  · repeat (with_reducible refine Mod.setCellAt ?_ (fun _ => by first | exact Or.inl rfl | exact Or.inr rfl) _)
    exact Mod.refl _ _
  · rcases hk with hk | hk
    · exact HSN.out k hk (e.imp (fun e => e.trans HRB.out) (fun e => e.trans HXB.out))
    · omega
  · rcases hk with hk | hk
    · exact H.out.su hk
    · omega
  · rcases hk with hk | hk
    · exact H.out.sp hk
    · omega
  · refine (mod_none (Mod.of_below HX.out.below)).trans' (show Mod (fun k => (k = rb ∨ k = xb) ∨ k = pb) W _ from ?_) (fun j hj e => ?_)
    · repeat (with_reducible refine Mod.setCellAt ?_ (fun _ => by first | exact Or.inl (Or.inl rfl) | exact Or.inl (Or.inr rfl)) _)
      exact HMW.out.mono (fun _ _ h => Or.inr h)
    · rcases e with e | e
      · omega
      · exact Or.inr e
set_option maxRecDepth 100000 in
set_option maxHeartbeats 2000000 in
theorem rdo_3 {w : World} {u pb : Nat} {S : Nat → Prop} {s : UnS} (h : RUnAt w u pb S s) (hok : s.pg.ok) (hSl : ∀ k, S k → k < w.heap.size) (hdn : s.down = false) (ep page : Int) (he : ¬ ep < s.epoch) (d : ByteArray) :
    Calls Tryz.prog 43 #[.pointer (some ⟨u, 0, none⟩), .agg #[.int .i64 3, .int .i64 x1, .int .i64 ep, .int .i64 page, .int .i64 x4, .int .i64 x5, .string d, .int .i64 x7, .slice ca cn cc]] w
      (RUnPost w u pb S (((s.pg.read page).2, 0, (s.pg.read page).1, s.epoch), s)) := by
  have he' : s.epoch ≤ ep := by omega
  have HSN := Lib.hid (show ∀ k, S k → ¬ (k = w.heap.size + 1 ∨ k = w.heap.size + 1 + 1) from fun k hk e => by have := hSl k hk; omega)
  clear he hSl
  obtain ⟨W, hW, ab, rb, xb, hab, hrb, hxb, hX⟩ : ∃ W, W = _ ∧ ∃ ab rb xb, ab = w.heap.size ∧ rb = w.heap.size + 1 ∧ xb = w.heap.size + 1 + 1 ∧ Boxed4 w W ab rb xb (.int .i64 3) (.int .i64 x1) (.int .i64 ep) (.int .i64 page) (.int .i64 x4) (.int .i64 x5) (.string d) (.int .i64 x7) (.slice ca cn cc) s.epoch := ⟨_, rfl, _, _, _, rfl, rfl, rfl, boxed4 w _ _ _ _ _ _ _ _ _ _⟩
  have HW := Lib.hid hW
  have HA := Lib.hid hab
  have HRB := Lib.hid hrb
  have HXB := Lib.hid hxb
  have hl := h.lt
  have hpl := h.pg.lt
  have c0 := h.c0
  have c1 := h.c1
  have c2 := h.c2
  have u0 := below_at hX.below c0 hl
  have u1 := below_at hX.below c1 hl
  have uf1 := (hX.below.frozen (p := ⟨u, 1, none⟩) hl).trans (h.fr 1 (by decide))
  have q0 := hX.q0
  have q2 := hX.q2
  have q3 := hX.q3
  have q6 := hX.q6
  have H := Lib.hid h
  have HPW := Lib.hid (h.pg.below hX.below)
  have HPD := Lib.hid (show RPgAt W.drew.drew pb S s.pg from HPW.out.mod (F := none') ((Mod.refl _ W).drew.drew) id (fun _ _ _ => id))
  have Hok := Lib.hid hok
  have HX := Lib.hid hX
  have hzW := hX.size
  have hrb2 := hX.brb
  have hxb2 := hX.bxb
  have hab2 := hX.bab
  have hne := hX.ne
  have hax : ab ≠ xb := by omega
  have har : ab ≠ rb := by omega
  rw [hdn] at c2
  clear h hok hW hab hrb hxb hX
  go_enter Tryz.func43, Tryz.ntmps43
  go_wp2_with fail
  rw [← HW.out, ← HXB.out, ← HRB.out, ← HA.out]
  clear c0 c1 c2
  go_region
  go_wp2_with fail
  have hKd : W.drew.drew.cell? ⟨u, 0, none⟩ = some (.pointer (some ⟨pb, 0, none⟩)) ∧ W.drew.drew.cell? ⟨ab, 3, none⟩ = some (.int .i64 page) := ⟨u0, q3⟩
  have hrd := rread_any HPD.out Hok.out page
  go_region_held3 (fun W' => W'.cell? ⟨u, 0, none⟩ = some (.pointer (some ⟨pb, 0, none⟩)) ∧ W'.cell? ⟨ab, 3, none⟩ = some (.int .i64 page))
    (first
      | with_reducible exact hKd
      | with_reducible exact hK3
      | with_reducible exact hK4 _ _
      | with_reducible exact hK5 _ _ _)
    (first
      | (go_at_call 76; (with_reducible refine hrd.mono ?_); rintro e w3 ⟨rfl, hB3'⟩
         have hM3 : Mod (· = pb) W w3 := Mod.trans (by (repeat' (first | (with_reducible exact (Mod.refl _ _)) | (with_reducible apply Mod.drew) | (with_reducible apply Mod.drewN) | (with_reducible apply Mod.alloc) | (with_reducible apply Mod.setCellAt) | (intro _; first | rfl | exact Or.inl rfl | exact Or.inr rfl) | (intro h; exfalso; omega)))) (Mod.of_below hB3')
         have hB3 : Below W.heap.size W w3 := (((Mod.refl none' W).drew.drew).trans (Mod.of_below hB3')).below
         have hK3 : w3.cell? ⟨u, 0, none⟩ = some (.pointer (some ⟨pb, 0, none⟩)) ∧ w3.cell? ⟨ab, 3, none⟩ = some (.int .i64 page) := ⟨hM3.at u0 H.out.ne, hM3.at q3 (by omega)⟩
         have hK4 : ∀ o v, (w3.setCell ⟨xb, o, none⟩ v).cell? ⟨u, 0, none⟩ = some (.pointer (some ⟨pb, 0, none⟩)) ∧ (w3.setCell ⟨xb, o, none⟩ v).cell? ⟨ab, 3, none⟩ = some (.int .i64 page) := fun o v => have hm : Mod (· = xb) w3 (w3.setCell ⟨xb, o, none⟩ v) := (Mod.refl (· = xb) w3).setCellAt (fun _ => rfl) _
           ⟨hm.at hK3.1 (by omega), hm.at hK3.2 (by omega)⟩
         have hK5 : ∀ v o v', ((w3.setCell ⟨xb, 2, none⟩ v).setCell ⟨xb, o, none⟩ v').cell? ⟨u, 0, none⟩ = some (.pointer (some ⟨pb, 0, none⟩)) ∧ ((w3.setCell ⟨xb, 2, none⟩ v).setCell ⟨xb, o, none⟩ v').cell? ⟨ab, 3, none⟩ = some (.int .i64 page) := fun v o v' => have hm : Mod (· = xb) w3 ((w3.setCell ⟨xb, 2, none⟩ v).setCell ⟨xb, o, none⟩ v') := ((Mod.refl (· = xb) w3).setCellAt (fun _ => rfl) _).setCellAt (fun _ => rfl) _
           ⟨hm.at hK3.1 (by omega), hm.at hK3.2 (by omega)⟩
         have HU3 := Lib.hid (show RUnAt w3 u pb (fun k => S k ∨ W.heap.size ≤ k) s from H.out.withPg HX.out.below hM3 ((HPW.out.below hB3).sub (fun _ _ h => Or.inl h)))
         obtain ⟨⟨g0, g1, g2, g3, g4, g5, g6, g7⟩, ⟨y0, y1, y2, y3, y4, y5, y6, y7⟩, ff, gf⟩ := HX.out.far hM3 (by omega) (by omega)
         have ff0 := ff 0
         have ff1 := ff 1
         have ff2 := ff 2
         have ff3 := ff 3
         have ff4 := ff 4
         have ff5 := ff 5
         have ff6 := ff 6
         have ff7 := ff 7
         have gf0 := gf 0
         have gf1 := gf 1
         have gf2 := gf 2
         have gf3 := gf 3
         have gf4 := gf 4
         have gf5 := gf 5
         have gf6 := gf 6
         have gf7 := gf 7
         clear hrd hB3' hB3 ff gf))
  clear hK3 hKd hK4 hK5
  have HMW := Lib.hid (show Mod (· = pb) W w3 from Mod.trans (by (repeat' (first | (with_reducible exact (Mod.refl _ _)) | (with_reducible apply Mod.drew) | (with_reducible apply Mod.drewN) | (with_reducible apply Mod.alloc) | (with_reducible apply Mod.setCellAt) | (intro _; first | rfl | exact Or.inl rfl | exact Or.inr rfl) | (intro h; exfalso; omega)))) hM3)
  clear hM3 u0 u1 uf1 q0 q2 q3 q6
  go_wp2_with fail
  refine bodyPost_ret (v := ansU ((s.pg.read page).2) (0) ((s.pg.read page).1) (s.epoch)) (by simp only [results, Tryz.results43, ansU]; go_simp) rfl ?_
  refine ⟨rfl, ((HU3.out.mod (F := fun k => k = rb ∨ k = xb) ?_ (by omega) (by omega) (fun k hk hkl e => ?_)).sub (fun k _ hk => hk.imp id (fun h => by omega)) (fun hk => ?_) (fun hk => ?_)), ?_⟩
  · repeat (with_reducible refine Mod.setCellAt ?_ (fun _ => by first | exact Or.inl rfl | exact Or.inr rfl) _)
    exact Mod.refl _ _
  · rcases hk with hk | hk
    · exact HSN.out k hk (e.imp (fun e => e.trans HRB.out) (fun e => e.trans HXB.out))
    · omega
  · rcases hk with hk | hk
    · exact H.out.su hk
    · omega
  · rcases hk with hk | hk
    · exact H.out.sp hk
    · omega
  · refine (mod_none (Mod.of_below HX.out.below)).trans' (show Mod (fun k => (k = rb ∨ k = xb) ∨ k = pb) W _ from ?_) (fun j hj e => ?_)
    · repeat (with_reducible refine Mod.setCellAt ?_ (fun _ => by first | exact Or.inl (Or.inl rfl) | exact Or.inl (Or.inr rfl)) _)
      exact HMW.out.mono (fun _ _ h => Or.inr h)
    · rcases e with e | e
      · omega
      · exact Or.inr e
set_option maxRecDepth 100000 in
set_option maxHeartbeats 2000000 in
theorem rdo_5 {w : World} {u pb : Nat} {S : Nat → Prop} {s : UnS} (h : RUnAt w u pb S s) (hok : s.pg.ok) (hSl : ∀ k, S k → k < w.heap.size) (hdn : s.down = false) (ep page : Int) (he : ¬ ep < s.epoch) (d : ByteArray) :
    Calls Tryz.prog 43 #[.pointer (some ⟨u, 0, none⟩), .agg #[.int .i64 5, .int .i64 x1, .int .i64 ep, .int .i64 page, .int .i64 x4, .int .i64 x5, .string d, .int .i64 x7, .slice ca cn cc]] w
      (RUnPost w u pb S ((0, s.pg.tail, ⟨#[]⟩, ep), { s with epoch := ep })) := by
  have he' : s.epoch ≤ ep := by omega
  have HSN := Lib.hid (show ∀ k, S k → ¬ (k = w.heap.size + 1 ∨ k = w.heap.size + 1 + 1) from fun k hk e => by have := hSl k hk; omega)
  clear he hSl
  obtain ⟨W, hW, ab, rb, xb, hab, hrb, hxb, hX⟩ : ∃ W, W = _ ∧ ∃ ab rb xb, ab = w.heap.size ∧ rb = w.heap.size + 1 ∧ xb = w.heap.size + 1 + 1 ∧ Boxed4 w W ab rb xb (.int .i64 5) (.int .i64 x1) (.int .i64 ep) (.int .i64 page) (.int .i64 x4) (.int .i64 x5) (.string d) (.int .i64 x7) (.slice ca cn cc) s.epoch := ⟨_, rfl, _, _, _, rfl, rfl, rfl, boxed4 w _ _ _ _ _ _ _ _ _ _⟩
  have HW := Lib.hid hW
  have HA := Lib.hid hab
  have HRB := Lib.hid hrb
  have HXB := Lib.hid hxb
  have hl := h.lt
  have hpl := h.pg.lt
  have c0 := h.c0
  have c1 := h.c1
  have c2 := h.c2
  have u0 := below_at hX.below c0 hl
  have u1 := below_at hX.below c1 hl
  have uf1 := (hX.below.frozen (p := ⟨u, 1, none⟩) hl).trans (h.fr 1 (by decide))
  have q0 := hX.q0
  have q2 := hX.q2
  have q3 := hX.q3
  have q6 := hX.q6
  have H := Lib.hid h
  have HPW := Lib.hid (h.pg.below hX.below)
  have HPD := Lib.hid (show RPgAt W.drew.drew pb S s.pg from HPW.out.mod (F := none') ((Mod.refl _ W).drew.drew) id (fun _ _ _ => id))
  have Hok := Lib.hid hok
  have HX := Lib.hid hX
  have hzW := hX.size
  have hrb2 := hX.brb
  have hxb2 := hX.bxb
  have hab2 := hX.bab
  have hne := hX.ne
  have hax : ab ≠ xb := by omega
  have har : ab ≠ rb := by omega
  rw [hdn] at c2
  clear h hok hW hab hrb hxb hX
  go_enter Tryz.func43, Tryz.ntmps43
  go_wp2_with fail
  rw [← HW.out, ← HXB.out, ← HRB.out, ← HA.out]
  clear c0 c1 c2
  go_region
  go_wp2_with fail
  obtain ⟨W5, hW5⟩ : ∃ W5, W5 = (W.setCell ⟨u, 1, none⟩ (.int .i64 ep)).drew := ⟨_, rfl⟩
  have hM5 : Mod (· = u) W W5 := by rw [hW5]; (repeat' (first | (with_reducible exact (Mod.refl _ _)) | (with_reducible apply Mod.drew) | (with_reducible apply Mod.drewN) | (with_reducible apply Mod.alloc) | (with_reducible apply Mod.setCellAt) | (intro _; first | rfl | exact Or.inl rfl | exact Or.inr rfl) | (intro h; exfalso; omega)))
  have m0 : W5.cell? ⟨u, 0, none⟩ = some (.pointer (some ⟨pb, 0, none⟩)) := by rw [hW5]; go_simp
  have m1 : W5.cell? ⟨u, 1, none⟩ = some (.int .i64 ep) := by rw [hW5]; go_simp
  have m2 : W5.cell? ⟨u, 2, none⟩ = some (.bool s.down) := by have := below_at HX.out.below H.out.c2 hl; rw [hW5]; go_simp
  have HMF := Lib.hid (show ∀ o, o < 3 → W5.frozen? ⟨u, o, none⟩ = false from fun o ho => by have := (HX.out.below.frozen (p := ⟨u, o, none⟩) hl).trans (H.out.fr o ho); rw [hW5]; go_simp)
  rw [← hW5]
  have HP5 := Lib.hid (HPW.out.mod hM5 (fun e => H.out.ne e.symm) (fun k hk _ e => H.out.su (e ▸ hk)))
  have z2 := hM5.at q2 (show ¬ ab = u by omega)
  have HU3 := Lib.hid (show RUnAt W5 u pb (fun k => S k ∨ W.heap.size ≤ k) { s with epoch := ep } from ⟨m0, m1, m2, HMF.out, HP5.out.sub (fun _ _ h => Or.inl h), H.out.ne, fun hk => by
    rcases hk with hk | hk
    · exact H.out.su hk
    · omega, fun hk => by
    rcases hk with hk | hk
    · exact H.out.sp hk
    · omega⟩)
  obtain ⟨⟨g0, g1, g2, g3, g4, g5, g6, g7⟩, ⟨y0, y1, y2, y3, y4, y5, y6, y7⟩, ff, gf⟩ := HX.out.far hM5 (by omega) (by omega)
  have ff0 := ff 0
  have ff1 := ff 1
  have ff2 := ff 2
  have ff3 := ff 3
  have ff4 := ff 4
  have ff5 := ff 5
  have ff6 := ff 6
  have ff7 := ff 7
  have gf0 := gf 0
  have gf1 := gf 1
  have gf2 := gf 2
  have gf3 := gf 3
  have gf4 := gf 4
  have gf5 := gf 5
  have gf6 := gf 6
  have gf7 := gf 7
  have HM5 := Lib.hid hM5
  have hKd : W5.drew.cell? ⟨u, 0, none⟩ = some (.pointer (some ⟨pb, 0, none⟩)) ∧ W5.drew.cell? ⟨ab, 2, none⟩ = some (.int .i64 ep) := ⟨m0, z2⟩
  have hK4 : ∀ o v, ((W5.setCell ⟨xb, o, none⟩ v).drew).cell? ⟨u, 0, none⟩ = some (.pointer (some ⟨pb, 0, none⟩)) ∧ ((W5.setCell ⟨xb, o, none⟩ v).drew).cell? ⟨ab, 2, none⟩ = some (.int .i64 ep) := fun o v => have hm : Mod (· = xb) W5 ((W5.setCell ⟨xb, o, none⟩ v).drew) := ((Mod.refl (· = xb) W5).setCellAt (fun _ => rfl) _).drew
    ⟨hm.at m0 (by omega), hm.at z2 (by omega)⟩
  have hK5 : ∀ v o v', (((W5.setCell ⟨xb, 7, none⟩ v).setCell ⟨xb, o, none⟩ v').drew).cell? ⟨u, 0, none⟩ = some (.pointer (some ⟨pb, 0, none⟩)) ∧ (((W5.setCell ⟨xb, 7, none⟩ v).setCell ⟨xb, o, none⟩ v').drew).cell? ⟨ab, 2, none⟩ = some (.int .i64 ep) := fun v o v' => have hm : Mod (· = xb) W5 (((W5.setCell ⟨xb, 7, none⟩ v).setCell ⟨xb, o, none⟩ v').drew) := (((Mod.refl (· = xb) W5).setCellAt (fun _ => rfl) _).setCellAt (fun _ => rfl) _).drew
    ⟨hm.at m0 (by omega), hm.at z2 (by omega)⟩
  have htl := rtail_any (w := W5.drew) (HP5.out.mod (F := none') ((Mod.refl _ W5).drew) id (fun _ _ _ => id)) Hok.out
  clear ff gf hM5 hW5 u0 u1 uf1 q0 q2 q3 q6
  go_region_held3 (fun W' => W'.cell? ⟨u, 0, none⟩ = some (.pointer (some ⟨pb, 0, none⟩)) ∧ W'.cell? ⟨ab, 2, none⟩ = some (.int .i64 ep))
    (first
      | with_reducible exact hKd
      | with_reducible exact hK4 _ _
      | with_reducible exact hK5 _ _ _)
    (first
      | (go_at_call 49; (with_reducible refine htl.mono ?_); rintro e w3 ⟨rfl, rfl⟩))
  clear hKd hK4 hK5 htl m0 m1 m2 z2
  go_wp2_with fail
  refine bodyPost_ret (v := ansU 0 s.pg.tail ⟨#[]⟩ ep) (by simp only [results, Tryz.results43, ansU]; go_simp) rfl ?_
  refine ⟨rfl, ((HU3.out.mod (F := fun k => k = rb ∨ k = xb) ?_ (by omega) (by omega) (fun k hk hkl e => ?_)).sub (fun k _ hk => hk.imp id (fun h => by omega)) (fun hk => ?_) (fun hk => ?_)), ?_⟩
  · (repeat' (first | (with_reducible exact (Mod.refl _ _)) | (with_reducible apply Mod.drew) | (with_reducible apply Mod.drewN) | (with_reducible apply Mod.alloc) | (with_reducible apply Mod.setCellAt) | (intro _; first | rfl | exact Or.inl rfl | exact Or.inr rfl) | (intro h; exfalso; omega)))
  · rcases hk with hk | hk
    · exact HSN.out k hk (e.imp (fun e => e.trans HRB.out) (fun e => e.trans HXB.out))
    · omega
  · rcases hk with hk | hk
    · exact H.out.su hk
    · omega
  · rcases hk with hk | hk
    · exact H.out.sp hk
    · omega
  · have hz5 := HM5.out.size
    refine (mod_none (Mod.of_below HX.out.below)).trans' ((HM5.out.mono (G := fun k => (k = rb ∨ k = xb) ∨ k = u) (fun _ _ h => Or.inr h)).trans (show Mod (fun k => (k = rb ∨ k = xb) ∨ k = u) W5 _ from ?_)) (fun j hj e => ?_)
    · repeat' (first | (with_reducible exact Mod.refl _ _) | (with_reducible apply Mod.drew) | (with_reducible apply Mod.setCellAt) | (intro _; first | exact Or.inl (Or.inl rfl) | exact Or.inl (Or.inr rfl)))
    · rcases e with e | e
      · omega
      · exact Or.inl e
end
end Go.Proofs.YtnojjohkpkmliaaGreat
