/- package tree: Rename -/
import Derived.Test.YtajbooppoohplaaGreatDoorMac
import Derived.Test.YtajbooppoohplaaGreatDoorPkTre
set_option maxRecDepth 100000
set_option maxHeartbeats 8000000
namespace Esch
open Go Go.RowKit
/-- what a renaming holds: three variables, two spots -/
structure RnAt (W : World) (tb pb qb xb yb b : Nat) (p q : Nm) (x y : SpotS) : Prop where
  t : W.cell? ⟨tb, 0, none⟩ = some (.pointer (some ⟨b, 0, none⟩))
  p : W.cell? ⟨pb, 0, none⟩ = some (.string (bs p))
  q : W.cell? ⟨qb, 0, none⟩ = some (.string (bs q))
  x0 : W.cell? ⟨xb, 0, none⟩ = some (.int .i64 x.dir)
  x1 : W.cell? ⟨xb, 1, none⟩ = some (.string (bs x.name))
  x2 : W.cell? ⟨xb, 2, none⟩ = some (.int .i64 x.ino)
  y0 : W.cell? ⟨yb, 0, none⟩ = some (.int .i64 y.dir)
  y1 : W.cell? ⟨yb, 1, none⟩ = some (.string (bs y.name))
  y2 : W.cell? ⟨yb, 2, none⟩ = some (.int .i64 y.ino)
theorem RnAt.mod {F : Nat → Prop} {W W' : World} {tb pb qb xb yb b : Nat} {p q : Nm} {x y : SpotS} (h : RnAt W tb pb qb xb yb b p q x y) (hM : Mod F W W') (nt : ¬ F tb) (np : ¬ F pb) (nq : ¬ F qb) (nx : ¬ F xb) (ny : ¬ F yb) : RnAt W' tb pb qb xb yb b p q x y :=
  ⟨hM.at h.t nt, hM.at h.p np, hM.at h.q nq, hM.at h.x0 nx, hM.at h.x1 nx, hM.at h.x2 nx, hM.at h.y0 ny, hM.at h.y1 ny, hM.at h.y2 ny⟩
theorem RnAt.below {W W' : World} {tb pb qb xb yb b : Nat} {p q : Nm} {x y : SpotS} (h : RnAt W tb pb qb xb yb b p q x y) (hB : Below W.heap.size W W') : RnAt W' tb pb qb xb yb b p q x y := h.mod (F := none') (Mod.of_below hB) id id id id id
end Esch
namespace Go.Proofs.YtajbooppoohplaaGreatDoor
open Go.RowKit Esch Go.Shelf

theorem rename1_any (W : World) (b tb pb qb : Nat) (S : Nat → Prop) (s : TrS) (h : TreeAt W b S s) (hok : s.ok) (p q : Nm)
    (t0 : W.cell? ⟨tb, 0, none⟩ = some (.pointer (some ⟨b, 0, none⟩))) (p0 : W.cell? ⟨pb, 0, none⟩ = some (.string (bs p))) (q0 : W.cell? ⟨qb, 0, none⟩ = some (.string (bs q))) (nt : ¬ S tb) (np : ¬ S pb) (nq : ¬ S qb) :
    Calls Tryz.prog 182 #[.pointer (some ⟨tb, 0, none⟩), .pointer (some ⟨pb, 0, none⟩), .pointer (some ⟨qb, 0, none⟩)] W (DoPost (ChgR W b S ((s.rename p q).run s))) := by
 have hpl := trPlace_any W b S s h p 70
 have hpq := fun W' hW => trPlace_any W' b S s hW q 61
 have hno := stop_no
 have hys := stop_yes
 have hkd := fun W hW d => trKind_any W b S s hW d
 have H := Lib.hid h
 obtain ⟨r, hr⟩ : ∃ r, r = (s.rename p q).run s := ⟨_, rfl⟩
 rw [← hr]
 have HR := Lib.hid hr
 clear h hr
 cases hp : s.place p 70 with
 | err x =>
   rw [hp] at hpl
   have HE := Lib.hid (show r = (x, s) by rw [HR.out]; unfold TrS.rename; rw [hp]; rfl)
   clear hp
   go_enter Tryz.func182, Tryz.ntmps182
   go_wp2_with fail
   refine hpl.mono ?_
   rintro e W2 ⟨hB2, rfl⟩
   go_wp2_with fail
   exact ⟨rfl, Or.inr ⟨x, rfl, by rw [HE.out], by rw [HE.out]; exact H.out.below' hB2, Mod.of_below hB2⟩⟩
 | ok x =>
 rw [hp] at hpl
 obtain ⟨xd, xn, xi⟩ := x
 have HP := Lib.hid hp
 clear hp
 by_cases hi : xi = 0
 · subst hi
   have HE := Lib.hid (show r = (60, s) by rw [HR.out]; unfold TrS.rename; rw [HP.out]; simp [Res.bind, stopB, Res.run])
   go_enter Tryz.func182, Tryz.ntmps182
   go_wp2_with fail
   refine hpl.mono ?_
   rintro e W2 ⟨hB2, rfl⟩
   have hz2 := hB2.size
   simp only [spotV]
   go_wp2_with fail
   have HT := Lib.hid ((H.out.below' hB2).below' (w' := W2.alloc (.cells #[.int .i64 xd, .string (bs xn), .int .i64 0] 257)) (by exact belC (Below.refl _ _)))
   have HM := Lib.hid (Mod.of_below (F := S) (show Below W.heap.size W (W2.alloc (.cells #[.int .i64 xd, .string (bs xn), .int .i64 0] 257)) by exact belC hB2))
   exact mK100
 have hi2 : (xi == 0) = false := by simpa using hi
 have Hi := Lib.hid hi
 clear hi
 cases hq : s.place q 61 with
 | err e0 =>
   rw [hq] at hpq
   have HE := Lib.hid (show r = (e0, s) by rw [HR.out]; unfold TrS.rename; rw [HP.out, hq]; simp [Res.bind, stopB, Hi.out, Res.run])
   clear hq
   go_enter Tryz.func182, Tryz.ntmps182
   go_wp2_with fail
   refine hpl.mono ?_
   clear hpl
   rintro e W2 ⟨hB2, rfl⟩
   have t2 := below_at hB2 t0 (cell_lt t0)
   have p2 := below_at hB2 p0 (cell_lt p0)
   have q2 := below_at hB2 q0 (cell_lt q0)
   have HT2 := H.out.below' hB2
   simp only [spotV]
   obtain ⟨W4, hW4⟩ : ∃ W4, W4 = W2.alloc (.cells #[.int .i64 xd, .string (bs xn), .int .i64 xi] 257) := ⟨_, rfl⟩
   have hB4 : Below W2.heap.size W2 W4 := by rw [hW4]; exact belC (Below.refl _ _)
   have x0 : W4.cell? ⟨W2.heap.size, 0, none⟩ = some (.int .i64 xd) := by rw [hW4]; go_simp
   have x1 : W4.cell? ⟨W2.heap.size, 1, none⟩ = some (.string (bs xn)) := by rw [hW4]; go_simp
   have x2 : W4.cell? ⟨W2.heap.size, 2, none⟩ = some (.int .i64 xi) := by rw [hW4]; go_simp
   have t4 := below_at hB4 t2 (cell_lt t2)
   have p4 := below_at hB4 p2 (cell_lt p2)
   have q4 := below_at hB4 q2 (cell_lt q2)
   have nx : ¬ S W2.heap.size := fun hk => by have := HT2.lt _ hk; omega
   have HT4 := Lib.hid (HT2.below' hB4)
   have HM4 := Lib.hid (Mod.of_below (F := S) (hB2.trans (hB4.mono hB2.size)))
   have HW4 := Lib.hid hW4
   obtain ⟨xb, hxb⟩ : ∃ xb, xb = W2.heap.size := ⟨_, rfl⟩
   clear HT2 hB4 hW4 t2 p2 q2 hB2
   go_wp2_with fail
   rw [← HW4.out]
   rw [← hxb] at x0 x1 x2 nx ⊢
   clear hxb HW4
   refine (hno _ _).mono ?_
   rintro e w9 ⟨rfl, rfl⟩
   go_wp2_with fail
   refine (hpq _ HT4.out).mono ?_
   clear hpq
   rintro e W5 ⟨hB5, rfl⟩
   go_wp2_with fail
   exact ⟨rfl, Or.inr ⟨_, rfl, by rw [HE.out], by rw [HE.out]; exact HT4.out.below' hB5, HM4.out.trans (Mod.of_below hB5)⟩⟩
 | ok y =>
 rw [hq] at hpq
 obtain ⟨yd, yn, yi⟩ := y
 have HQ := Lib.hid hq
 clear hq
 by_cases hxy : xi = yi
 · have HE := Lib.hid (show r = (0, s) by rw [HR.out]; unfold TrS.rename; rw [HP.out, HQ.out]; simp [Res.bind, stopB, Hi.out, Res.run, ← hxy])
   have hxy2 : (xi == yi) = true := by simpa using hxy
   clear hxy
   go_enter Tryz.func182, Tryz.ntmps182
   go_wp2_with fail
   refine hpl.mono ?_
   clear hpl
   rintro e W2 ⟨hB2, rfl⟩
   have t2 := below_at hB2 t0 (cell_lt t0)
   have p2 := below_at hB2 p0 (cell_lt p0)
   have q2 := below_at hB2 q0 (cell_lt q0)
   have HT2 := H.out.below' hB2
   simp only [spotV]
   obtain ⟨W4, hW4⟩ : ∃ W4, W4 = W2.alloc (.cells #[.int .i64 xd, .string (bs xn), .int .i64 xi] 257) := ⟨_, rfl⟩
   have hB4 : Below W2.heap.size W2 W4 := by rw [hW4]; exact belC (Below.refl _ _)
   have x0 : W4.cell? ⟨W2.heap.size, 0, none⟩ = some (.int .i64 xd) := by rw [hW4]; go_simp
   have x1 : W4.cell? ⟨W2.heap.size, 1, none⟩ = some (.string (bs xn)) := by rw [hW4]; go_simp
   have x2 : W4.cell? ⟨W2.heap.size, 2, none⟩ = some (.int .i64 xi) := by rw [hW4]; go_simp
   have t4 := below_at hB4 t2 (cell_lt t2)
   have p4 := below_at hB4 p2 (cell_lt p2)
   have q4 := below_at hB4 q2 (cell_lt q2)
   have nx : ¬ S W2.heap.size := fun hk => by have := HT2.lt _ hk; omega
   have HT4 := Lib.hid (HT2.below' hB4)
   have HM4 := Lib.hid (Mod.of_below (F := S) (hB2.trans (hB4.mono hB2.size)))
   have HW4 := Lib.hid hW4
   obtain ⟨xb, hxb⟩ : ∃ xb, xb = W2.heap.size := ⟨_, rfl⟩
   clear HT2 hB4 hW4 t2 p2 q2 hB2
   go_wp2_with fail
   rw [← HW4.out]
   rw [← hxb] at x0 x1 x2 nx ⊢
   clear hxb HW4
   refine (hno _ _).mono ?_
   rintro e w9 ⟨rfl, rfl⟩
   go_wp2_with fail
   refine (hpq _ HT4.out).mono ?_
   clear hpq
   rintro e W5 ⟨hB5, rfl⟩
   have HT5 := HT4.out.below' hB5
   simp only [spotV]
   obtain ⟨W6, hW6⟩ : ∃ W6, W6 = W5.alloc (.cells #[.int .i64 yd, .string (bs yn), .int .i64 yi] 257) := ⟨_, rfl⟩
   have hB6 : Below W5.heap.size W5 W6 := by rw [hW6]; exact belC (Below.refl _ _)
   have ny : ¬ S W5.heap.size := fun hk => by have := HT5.lt _ hk; omega
   have hB56 := hB5.trans (hB6.mono hB5.size)
   have HRN := Lib.hid (show RnAt W6 tb pb qb xb W5.heap.size b p q ⟨xd, xn, xi⟩ ⟨yd, yn, yi⟩ from ⟨below_at hB56 t4 (cell_lt t4), below_at hB56 p4 (cell_lt p4), below_at hB56 q4 (cell_lt q4), below_at hB56 x0 (cell_lt x0), below_at hB56 x1 (cell_lt x1), below_at hB56 x2 (cell_lt x2), by rw [hW6]; go_simp, by rw [hW6]; go_simp, by rw [hW6]; go_simp⟩)
   have HT := Lib.hid (HT4.out.below' hB56)
   have HM := Lib.hid (HM4.out.trans (Mod.of_below (F := S) hB56))
   have HW6 := Lib.hid hW6
   obtain ⟨yb, hyb⟩ : ∃ yb, yb = W5.heap.size := ⟨_, rfl⟩
   rw [← hyb] at HRN ny
   have z0 := below_at hB5 x0 (cell_lt x0)
   have z1 := below_at hB5 x1 (cell_lt x1)
   have z2 := below_at hB5 x2 (cell_lt x2)
   have tz := below_at hB5 t4 (cell_lt t4)
   have pz := below_at hB5 p4 (cell_lt p4)
   have qz := below_at hB5 q4 (cell_lt q4)
   have hlx := cell_lt z0
   have hlt := cell_lt tz
   have hlp := cell_lt pz
   have hlq := cell_lt qz
   clear HT5 hB6 hW6 hB56 t4 p4 q4 x0 x1 x2 HT4 HM4 hB5
   go_wp2_with fail
   rw [← HW6.out]
   rw [← hyb]
   clear hyb HW6 z0 z1 z2 tz pz qz hlx hlt hlp hlq
   obtain ⟨t5, p5, q5, x0, x1, x2, y0, y1, y2⟩ := HRN.out
   simp only at x0 x1 x2 y0 y1 y2
   go_end0
   exact Or.inl ⟨rfl, by rw [HE.out], by rw [HE.out]; exact HT.out, HM.out⟩
 have hxy2 : (xi == yi) = false := by simpa using hxy
 have Hxy := Lib.hid hxy
 clear hxy
 have hkx := fun W hW => hkd W hW xi
 have hky := fun W hW => hkd W hW yi
 have hin := fun W => inside_any W q p
 have hfl := fun W hW => trFull_any W b S s hW yd
 have hct := fun W nb S2 hW => dirCount_any W nb S2 s.n hW yi
 have Hok := Lib.hid hok
 clear hok hkd
 by_cases hk : s.kind xi = 1
 · rw [hk] at hkx
   by_cases hI : insideOf (namesOf q) (namesOf p) = true
   · have HE := Lib.hid (show r = (65, s) by rw [HR.out]; unfold TrS.rename; rw [HP.out, HQ.out]; simp [Res.bind, stopB, Hi.out, Res.run, Hxy.out, hk, hI])
     simp only [hI] at hin
     clear hk hI hky hfl hct
     go_enter Tryz.func182, Tryz.ntmps182
     go_wp2_with fail
     refine hpl.mono ?_
     clear hpl
     rintro e W2 ⟨hB2, rfl⟩
     have t2 := below_at hB2 t0 (cell_lt t0)
     have p2 := below_at hB2 p0 (cell_lt p0)
     have q2 := below_at hB2 q0 (cell_lt q0)
     have HT2 := H.out.below' hB2
     simp only [spotV]
     obtain ⟨W4, hW4⟩ : ∃ W4, W4 = W2.alloc (.cells #[.int .i64 xd, .string (bs xn), .int .i64 xi] 257) := ⟨_, rfl⟩
     have hB4 : Below W2.heap.size W2 W4 := by rw [hW4]; exact belC (Below.refl _ _)
     have x0 : W4.cell? ⟨W2.heap.size, 0, none⟩ = some (.int .i64 xd) := by rw [hW4]; go_simp
     have x1 : W4.cell? ⟨W2.heap.size, 1, none⟩ = some (.string (bs xn)) := by rw [hW4]; go_simp
     have x2 : W4.cell? ⟨W2.heap.size, 2, none⟩ = some (.int .i64 xi) := by rw [hW4]; go_simp
     have t4 := below_at hB4 t2 (cell_lt t2)
     have p4 := below_at hB4 p2 (cell_lt p2)
     have q4 := below_at hB4 q2 (cell_lt q2)
     have nx : ¬ S W2.heap.size := fun hk => by have := HT2.lt _ hk; omega
     have HT4 := Lib.hid (HT2.below' hB4)
     have HM4 := Lib.hid (Mod.of_below (F := S) (hB2.trans (hB4.mono hB2.size)))
     have HW4 := Lib.hid hW4
     obtain ⟨xb, hxb⟩ : ∃ xb, xb = W2.heap.size := ⟨_, rfl⟩
     clear HT2 hB4 hW4 t2 p2 q2 hB2
     go_wp2_with fail
     rw [← HW4.out]
     rw [← hxb] at x0 x1 x2 nx ⊢
     clear hxb HW4
     refine (hno _ _).mono ?_
     rintro e w9 ⟨rfl, rfl⟩
     go_wp2_with fail
     refine (hpq _ HT4.out).mono ?_
     clear hpq
     rintro e W5 ⟨hB5, rfl⟩
     have HT5 := HT4.out.below' hB5
     simp only [spotV]
     obtain ⟨W6, hW6⟩ : ∃ W6, W6 = W5.alloc (.cells #[.int .i64 yd, .string (bs yn), .int .i64 yi] 257) := ⟨_, rfl⟩
     have hB6 : Below W5.heap.size W5 W6 := by rw [hW6]; exact belC (Below.refl _ _)
     have ny : ¬ S W5.heap.size := fun hk => by have := HT5.lt _ hk; omega
     have hB56 := hB5.trans (hB6.mono hB5.size)
     have HRN := Lib.hid (show RnAt W6 tb pb qb xb W5.heap.size b p q ⟨xd, xn, xi⟩ ⟨yd, yn, yi⟩ from ⟨below_at hB56 t4 (cell_lt t4), below_at hB56 p4 (cell_lt p4), below_at hB56 q4 (cell_lt q4), below_at hB56 x0 (cell_lt x0), below_at hB56 x1 (cell_lt x1), below_at hB56 x2 (cell_lt x2), by rw [hW6]; go_simp, by rw [hW6]; go_simp, by rw [hW6]; go_simp⟩)
     have HT := Lib.hid (HT4.out.below' hB56)
     have HM := Lib.hid (HM4.out.trans (Mod.of_below (F := S) hB56))
     have HW6 := Lib.hid hW6
     obtain ⟨yb, hyb⟩ : ∃ yb, yb = W5.heap.size := ⟨_, rfl⟩
     rw [← hyb] at HRN ny
     have z0 := below_at hB5 x0 (cell_lt x0)
     have z1 := below_at hB5 x1 (cell_lt x1)
     have z2 := below_at hB5 x2 (cell_lt x2)
     have tz := below_at hB5 t4 (cell_lt t4)
     have pz := below_at hB5 p4 (cell_lt p4)
     have qz := below_at hB5 q4 (cell_lt q4)
     have hlx := cell_lt z0
     have hlt := cell_lt tz
     have hlp := cell_lt pz
     have hlq := cell_lt qz
     clear HT5 hB6 hW6 hB56 t4 p4 q4 x0 x1 x2 HT4 HM4 hB5
     go_wp2_with fail
     rw [← HW6.out]
     rw [← hyb]
     clear hyb HW6 z0 z1 z2 tz pz qz hlx hlt hlp hlq
     obtain ⟨t5, p5, q5, x0, x1, x2, y0, y1, y2⟩ := HRN.out
     simp only at x0 x1 x2 y0 y1 y2
     refine (hkx _ HT.out).mono ?_
     rintro e w5 ⟨rfl, hB5⟩
     clear t5 p5 q5 x0 x1 x2 y0 y1 y2
     have HRN := Lib.hid (HRN.out.below hB5)
     have HM := Lib.hid (HM.out.trans (Mod.of_below (F := S) hB5))
     have HT := Lib.hid (HT.out.below' hB5)
     clear hB5
     obtain ⟨t5, p5, q5, x0, x1, x2, y0, y1, y2⟩ := HRN.out
     simp only at x0 x1 x2 y0 y1 y2
     go_wp2_with fail
     refine (hin _).mono ?_
     rintro e w6 ⟨rfl, hB5⟩
     exact mK101
   have hI : insideOf (namesOf q) (namesOf p) = false := by simpa using hI
   simp only [hI] at hin
   by_cases hy : yi = 0
   · have hy2 : (yi == 0) = true := by simpa using hy
     have hy3 : (yi != 0) = false := by simpa using hy
     by_cases hf : 64 ≤ s.n.count yd
     · by_cases hd : yd = xd
       · have HE := Lib.hid (show r = (0, ⟨s.t, (((s.n.drop xd xn).2).add yd yn xi).2⟩) by rw [HR.out]; unfold TrS.rename; rw [HP.out, HQ.out]; simp [Res.bind, stopB, Hi.out, Res.run, TrS.renS, hk, hI, hd, hy])
         have hd2 : (yd != xd) = false := by simpa using hd
         have hf2 : decide (64 ≤ s.n.count yd) = true := decide_eq_true hf
         simp only [hf2] at hfl
         clear hf hf2
         clear hk hI
         clear hky hct hd hy
         exact mK106
       · have HE := Lib.hid (show r = (67, s) by rw [HR.out]; unfold TrS.rename; rw [HP.out, HQ.out]; simp [Res.bind, stopB, Hi.out, Res.run, hk, hI, hd, hf, hy])
         have hd2 : (yd != xd) = true := by simpa using hd
         have hf2 : decide (64 ≤ s.n.count yd) = true := decide_eq_true hf
         simp only [hf2] at hfl
         clear hf hf2
         clear hk hI
         clear hky hct hd hy
         go_enter Tryz.func182, Tryz.ntmps182
         go_wp2_with fail
         refine hpl.mono ?_
         clear hpl
         rintro e W2 ⟨hB2, rfl⟩
         have t2 := below_at hB2 t0 (cell_lt t0)
         have p2 := below_at hB2 p0 (cell_lt p0)
         have q2 := below_at hB2 q0 (cell_lt q0)
         have HT2 := H.out.below' hB2
         simp only [spotV]
         obtain ⟨W4, hW4⟩ : ∃ W4, W4 = W2.alloc (.cells #[.int .i64 xd, .string (bs xn), .int .i64 xi] 257) := ⟨_, rfl⟩
         have hB4 : Below W2.heap.size W2 W4 := by rw [hW4]; exact belC (Below.refl _ _)
         have x0 : W4.cell? ⟨W2.heap.size, 0, none⟩ = some (.int .i64 xd) := by rw [hW4]; go_simp
         have x1 : W4.cell? ⟨W2.heap.size, 1, none⟩ = some (.string (bs xn)) := by rw [hW4]; go_simp
         have x2 : W4.cell? ⟨W2.heap.size, 2, none⟩ = some (.int .i64 xi) := by rw [hW4]; go_simp
         have t4 := below_at hB4 t2 (cell_lt t2)
         have p4 := below_at hB4 p2 (cell_lt p2)
         have q4 := below_at hB4 q2 (cell_lt q2)
         have nx : ¬ S W2.heap.size := fun hk => by have := HT2.lt _ hk; omega
         have HT4 := Lib.hid (HT2.below' hB4)
         have HM4 := Lib.hid (Mod.of_below (F := S) (hB2.trans (hB4.mono hB2.size)))
         have HW4 := Lib.hid hW4
         obtain ⟨xb, hxb⟩ : ∃ xb, xb = W2.heap.size := ⟨_, rfl⟩
         clear HT2 hB4 hW4 t2 p2 q2 hB2
         go_wp2_with fail
         rw [← HW4.out]
         rw [← hxb] at x0 x1 x2 nx ⊢
         clear hxb HW4
         refine (hno _ _).mono ?_
         rintro e w9 ⟨rfl, rfl⟩
         go_wp2_with fail
         refine (hpq _ HT4.out).mono ?_
         clear hpq
         rintro e W5 ⟨hB5, rfl⟩
         have HT5 := HT4.out.below' hB5
         simp only [spotV]
         obtain ⟨W6, hW6⟩ : ∃ W6, W6 = W5.alloc (.cells #[.int .i64 yd, .string (bs yn), .int .i64 yi] 257) := ⟨_, rfl⟩
         have hB6 : Below W5.heap.size W5 W6 := by rw [hW6]; exact belC (Below.refl _ _)
         have ny : ¬ S W5.heap.size := fun hk => by have := HT5.lt _ hk; omega
         have hB56 := hB5.trans (hB6.mono hB5.size)
         have HRN := Lib.hid (show RnAt W6 tb pb qb xb W5.heap.size b p q ⟨xd, xn, xi⟩ ⟨yd, yn, yi⟩ from ⟨below_at hB56 t4 (cell_lt t4), below_at hB56 p4 (cell_lt p4), below_at hB56 q4 (cell_lt q4), below_at hB56 x0 (cell_lt x0), below_at hB56 x1 (cell_lt x1), below_at hB56 x2 (cell_lt x2), by rw [hW6]; go_simp, by rw [hW6]; go_simp, by rw [hW6]; go_simp⟩)
         have HT := Lib.hid (HT4.out.below' hB56)
         have HM := Lib.hid (HM4.out.trans (Mod.of_below (F := S) hB56))
         have HW6 := Lib.hid hW6
         obtain ⟨yb, hyb⟩ : ∃ yb, yb = W5.heap.size := ⟨_, rfl⟩
         rw [← hyb] at HRN ny
         have z0 := below_at hB5 x0 (cell_lt x0)
         have z1 := below_at hB5 x1 (cell_lt x1)
         have z2 := below_at hB5 x2 (cell_lt x2)
         have tz := below_at hB5 t4 (cell_lt t4)
         have pz := below_at hB5 p4 (cell_lt p4)
         have qz := below_at hB5 q4 (cell_lt q4)
         have hlx := cell_lt z0
         have hlt := cell_lt tz
         have hlp := cell_lt pz
         have hlq := cell_lt qz
         clear HT5 hB6 hW6 hB56 t4 p4 q4 x0 x1 x2 HT4 HM4 hB5
         go_wp2_with fail
         rw [← HW6.out]
         rw [← hyb]
         clear hyb HW6 z0 z1 z2 tz pz qz hlx hlt hlp hlq
         obtain ⟨t5, p5, q5, x0, x1, x2, y0, y1, y2⟩ := HRN.out
         simp only at x0 x1 x2 y0 y1 y2
         refine (hkx _ HT.out).mono ?_
         rintro e w5 ⟨rfl, hB5⟩
         clear t5 p5 q5 x0 x1 x2 y0 y1 y2
         have HRN := Lib.hid (HRN.out.below hB5)
         have HM := Lib.hid (HM.out.trans (Mod.of_below (F := S) hB5))
         have HT := Lib.hid (HT.out.below' hB5)
         clear hB5
         obtain ⟨t5, p5, q5, x0, x1, x2, y0, y1, y2⟩ := HRN.out
         simp only at x0 x1 x2 y0 y1 y2
         go_wp2_with fail
         refine (hin _).mono ?_
         rintro e w6 ⟨rfl, hB5⟩
         exact mK105
     · have HE := Lib.hid (show r = (0, ⟨s.t, (((s.n.drop xd xn).2).add yd yn xi).2⟩) by rw [HR.out]; unfold TrS.rename; rw [HP.out, HQ.out]; simp [Res.bind, stopB, Hi.out, Res.run, TrS.renS, hk, hI, hf, hy])
       have hf2 : decide (64 ≤ s.n.count yd) = false := decide_eq_false hf
       simp only [hf2] at hfl
       clear hf hf2
       clear hk hI
       clear hky hct hy
       exact mK106
   have hy2 : (yi == 0) = false := by simpa using hy
   have hy3 : (yi != 0) = true := by simpa using hy
   by_cases hyk : s.kind yi = 1
   rotate_left 1
   · have HE := Lib.hid (show r = (62, s) by rw [HR.out]; unfold TrS.rename; rw [HP.out, HQ.out]; simp [Res.bind, stopB, Hi.out, Res.run, hk, hI, hy, hyk, Hxy.out])
     have hyk2 : (s.kind yi != 1) = true := by simpa using hyk
     generalize s.kind yi = ky at hky hyk2
     clear hyk hy
     clear hk hI
     clear hfl hct
     go_enter Tryz.func182, Tryz.ntmps182
     go_wp2_with fail
     refine hpl.mono ?_
     clear hpl
     rintro e W2 ⟨hB2, rfl⟩
     have t2 := below_at hB2 t0 (cell_lt t0)
     have p2 := below_at hB2 p0 (cell_lt p0)
     have q2 := below_at hB2 q0 (cell_lt q0)
     have HT2 := H.out.below' hB2
     simp only [spotV]
     obtain ⟨W4, hW4⟩ : ∃ W4, W4 = W2.alloc (.cells #[.int .i64 xd, .string (bs xn), .int .i64 xi] 257) := ⟨_, rfl⟩
     have hB4 : Below W2.heap.size W2 W4 := by rw [hW4]; exact belC (Below.refl _ _)
     have x0 : W4.cell? ⟨W2.heap.size, 0, none⟩ = some (.int .i64 xd) := by rw [hW4]; go_simp
     have x1 : W4.cell? ⟨W2.heap.size, 1, none⟩ = some (.string (bs xn)) := by rw [hW4]; go_simp
     have x2 : W4.cell? ⟨W2.heap.size, 2, none⟩ = some (.int .i64 xi) := by rw [hW4]; go_simp
     have t4 := below_at hB4 t2 (cell_lt t2)
     have p4 := below_at hB4 p2 (cell_lt p2)
     have q4 := below_at hB4 q2 (cell_lt q2)
     have nx : ¬ S W2.heap.size := fun hk => by have := HT2.lt _ hk; omega
     have HT4 := Lib.hid (HT2.below' hB4)
     have HM4 := Lib.hid (Mod.of_below (F := S) (hB2.trans (hB4.mono hB2.size)))
     have HW4 := Lib.hid hW4
     obtain ⟨xb, hxb⟩ : ∃ xb, xb = W2.heap.size := ⟨_, rfl⟩
     clear HT2 hB4 hW4 t2 p2 q2 hB2
     go_wp2_with fail
     rw [← HW4.out]
     rw [← hxb] at x0 x1 x2 nx ⊢
     clear hxb HW4
     refine (hno _ _).mono ?_
     rintro e w9 ⟨rfl, rfl⟩
     go_wp2_with fail
     refine (hpq _ HT4.out).mono ?_
     clear hpq
     rintro e W5 ⟨hB5, rfl⟩
     have HT5 := HT4.out.below' hB5
     simp only [spotV]
     obtain ⟨W6, hW6⟩ : ∃ W6, W6 = W5.alloc (.cells #[.int .i64 yd, .string (bs yn), .int .i64 yi] 257) := ⟨_, rfl⟩
     have hB6 : Below W5.heap.size W5 W6 := by rw [hW6]; exact belC (Below.refl _ _)
     have ny : ¬ S W5.heap.size := fun hk => by have := HT5.lt _ hk; omega
     have hB56 := hB5.trans (hB6.mono hB5.size)
     have HRN := Lib.hid (show RnAt W6 tb pb qb xb W5.heap.size b p q ⟨xd, xn, xi⟩ ⟨yd, yn, yi⟩ from ⟨below_at hB56 t4 (cell_lt t4), below_at hB56 p4 (cell_lt p4), below_at hB56 q4 (cell_lt q4), below_at hB56 x0 (cell_lt x0), below_at hB56 x1 (cell_lt x1), below_at hB56 x2 (cell_lt x2), by rw [hW6]; go_simp, by rw [hW6]; go_simp, by rw [hW6]; go_simp⟩)
     have HT := Lib.hid (HT4.out.below' hB56)
     have HM := Lib.hid (HM4.out.trans (Mod.of_below (F := S) hB56))
     have HW6 := Lib.hid hW6
     obtain ⟨yb, hyb⟩ : ∃ yb, yb = W5.heap.size := ⟨_, rfl⟩
     rw [← hyb] at HRN ny
     have z0 := below_at hB5 x0 (cell_lt x0)
     have z1 := below_at hB5 x1 (cell_lt x1)
     have z2 := below_at hB5 x2 (cell_lt x2)
     have tz := below_at hB5 t4 (cell_lt t4)
     have pz := below_at hB5 p4 (cell_lt p4)
     have qz := below_at hB5 q4 (cell_lt q4)
     have hlx := cell_lt z0
     have hlt := cell_lt tz
     have hlp := cell_lt pz
     have hlq := cell_lt qz
     clear HT5 hB6 hW6 hB56 t4 p4 q4 x0 x1 x2 HT4 HM4 hB5
     go_wp2_with fail
     rw [← HW6.out]
     rw [← hyb]
     clear hyb HW6 z0 z1 z2 tz pz qz hlx hlt hlp hlq
     obtain ⟨t5, p5, q5, x0, x1, x2, y0, y1, y2⟩ := HRN.out
     simp only at x0 x1 x2 y0 y1 y2
     refine (hkx _ HT.out).mono ?_
     rintro e w5 ⟨rfl, hB5⟩
     clear t5 p5 q5 x0 x1 x2 y0 y1 y2
     have HRN := Lib.hid (HRN.out.below hB5)
     have HM := Lib.hid (HM.out.trans (Mod.of_below (F := S) hB5))
     have HT := Lib.hid (HT.out.below' hB5)
     clear hB5
     obtain ⟨t5, p5, q5, x0, x1, x2, y0, y1, y2⟩ := HRN.out
     simp only at x0 x1 x2 y0 y1 y2
     go_wp2_with fail
     refine (hin _).mono ?_
     rintro e w6 ⟨rfl, hB5⟩
     exact mK102
   by_cases hc : 0 < s.n.count yi
   · have HE := Lib.hid (show r = (64, s) by rw [HR.out]; unfold TrS.rename; rw [HP.out, HQ.out]; simp [Res.bind, stopB, Hi.out, Res.run, hk, hI, hy, hyk, hc, Hxy.out])
     rw [hyk] at hky
     generalize s.n.count yi = cc at hct hc
     clear hyk hy
     clear hk hI
     clear hfl
     go_enter Tryz.func182, Tryz.ntmps182
     go_wp2_with fail
     refine hpl.mono ?_
     clear hpl
     rintro e W2 ⟨hB2, rfl⟩
     have t2 := below_at hB2 t0 (cell_lt t0)
     have p2 := below_at hB2 p0 (cell_lt p0)
     have q2 := below_at hB2 q0 (cell_lt q0)
     have HT2 := H.out.below' hB2
     simp only [spotV]
     obtain ⟨W4, hW4⟩ : ∃ W4, W4 = W2.alloc (.cells #[.int .i64 xd, .string (bs xn), .int .i64 xi] 257) := ⟨_, rfl⟩
     have hB4 : Below W2.heap.size W2 W4 := by rw [hW4]; exact belC (Below.refl _ _)
     have x0 : W4.cell? ⟨W2.heap.size, 0, none⟩ = some (.int .i64 xd) := by rw [hW4]; go_simp
     have x1 : W4.cell? ⟨W2.heap.size, 1, none⟩ = some (.string (bs xn)) := by rw [hW4]; go_simp
     have x2 : W4.cell? ⟨W2.heap.size, 2, none⟩ = some (.int .i64 xi) := by rw [hW4]; go_simp
     have t4 := below_at hB4 t2 (cell_lt t2)
     have p4 := below_at hB4 p2 (cell_lt p2)
     have q4 := below_at hB4 q2 (cell_lt q2)
     have nx : ¬ S W2.heap.size := fun hk => by have := HT2.lt _ hk; omega
     have HT4 := Lib.hid (HT2.below' hB4)
     have HM4 := Lib.hid (Mod.of_below (F := S) (hB2.trans (hB4.mono hB2.size)))
     have HW4 := Lib.hid hW4
     obtain ⟨xb, hxb⟩ : ∃ xb, xb = W2.heap.size := ⟨_, rfl⟩
     clear HT2 hB4 hW4 t2 p2 q2 hB2
     go_wp2_with fail
     rw [← HW4.out]
     rw [← hxb] at x0 x1 x2 nx ⊢
     clear hxb HW4
     refine (hno _ _).mono ?_
     rintro e w9 ⟨rfl, rfl⟩
     go_wp2_with fail
     refine (hpq _ HT4.out).mono ?_
     clear hpq
     rintro e W5 ⟨hB5, rfl⟩
     have HT5 := HT4.out.below' hB5
     simp only [spotV]
     obtain ⟨W6, hW6⟩ : ∃ W6, W6 = W5.alloc (.cells #[.int .i64 yd, .string (bs yn), .int .i64 yi] 257) := ⟨_, rfl⟩
     have hB6 : Below W5.heap.size W5 W6 := by rw [hW6]; exact belC (Below.refl _ _)
     have ny : ¬ S W5.heap.size := fun hk => by have := HT5.lt _ hk; omega
     have hB56 := hB5.trans (hB6.mono hB5.size)
     have HRN := Lib.hid (show RnAt W6 tb pb qb xb W5.heap.size b p q ⟨xd, xn, xi⟩ ⟨yd, yn, yi⟩ from ⟨below_at hB56 t4 (cell_lt t4), below_at hB56 p4 (cell_lt p4), below_at hB56 q4 (cell_lt q4), below_at hB56 x0 (cell_lt x0), below_at hB56 x1 (cell_lt x1), below_at hB56 x2 (cell_lt x2), by rw [hW6]; go_simp, by rw [hW6]; go_simp, by rw [hW6]; go_simp⟩)
     have HT := Lib.hid (HT4.out.below' hB56)
     have HM := Lib.hid (HM4.out.trans (Mod.of_below (F := S) hB56))
     have HW6 := Lib.hid hW6
     obtain ⟨yb, hyb⟩ : ∃ yb, yb = W5.heap.size := ⟨_, rfl⟩
     rw [← hyb] at HRN ny
     have z0 := below_at hB5 x0 (cell_lt x0)
     have z1 := below_at hB5 x1 (cell_lt x1)
     have z2 := below_at hB5 x2 (cell_lt x2)
     have tz := below_at hB5 t4 (cell_lt t4)
     have pz := below_at hB5 p4 (cell_lt p4)
     have qz := below_at hB5 q4 (cell_lt q4)
     have hlx := cell_lt z0
     have hlt := cell_lt tz
     have hlp := cell_lt pz
     have hlq := cell_lt qz
     clear HT5 hB6 hW6 hB56 t4 p4 q4 x0 x1 x2 HT4 HM4 hB5
     go_wp2_with fail
     rw [← HW6.out]
     rw [← hyb]
     clear hyb HW6 z0 z1 z2 tz pz qz hlx hlt hlp hlq
     obtain ⟨t5, p5, q5, x0, x1, x2, y0, y1, y2⟩ := HRN.out
     simp only at x0 x1 x2 y0 y1 y2
     refine (hkx _ HT.out).mono ?_
     rintro e w5 ⟨rfl, hB5⟩
     clear t5 p5 q5 x0 x1 x2 y0 y1 y2
     have HRN := Lib.hid (HRN.out.below hB5)
     have HM := Lib.hid (HM.out.trans (Mod.of_below (F := S) hB5))
     have HT := Lib.hid (HT.out.below' hB5)
     clear hB5
     obtain ⟨t5, p5, q5, x0, x1, x2, y0, y1, y2⟩ := HRN.out
     simp only at x0 x1 x2 y0 y1 y2
     go_wp2_with fail
     refine (hin _).mono ?_
     rintro e w6 ⟨rfl, hB5⟩
     clear t5 p5 q5 x0 x1 x2 y0 y1 y2
     have HRN := Lib.hid (HRN.out.below hB5)
     have HM := Lib.hid (HM.out.trans (Mod.of_below (F := S) hB5))
     have HT := Lib.hid (HT.out.below' hB5)
     clear hB5
     obtain ⟨t5, p5, q5, x0, x1, x2, y0, y1, y2⟩ := HRN.out
     simp only at x0 x1 x2 y0 y1 y2
     go_wp2_with fail
     refine (hno _ _).mono ?_
     rintro e w9 ⟨rfl, rfl⟩
     go_wp2_with fail
     refine (hky _ HT.out).mono ?_
     rintro e w7 ⟨rfl, hB5⟩
     clear t5 p5 q5 x0 x1 x2 y0 y1 y2
     have HRN := Lib.hid (HRN.out.below hB5)
     have HM := Lib.hid (HM.out.trans (Mod.of_below (F := S) hB5))
     have HT := Lib.hid (HT.out.below' hB5)
     clear hB5
     obtain ⟨t5, p5, q5, x0, x1, x2, y0, y1, y2⟩ := HRN.out
     simp only at x0 x1 x2 y0 y1 y2
     go_wp2_with fail
     refine (hno _ _).mono ?_
     rintro e w9 ⟨rfl, rfl⟩
     go_wp2_with fail
     obtain ⟨sb, lt, ib, nb, S1, S2, c0, c1, ht, hn, s1, s2, dd, b1, b2⟩ := HT.out
     have hBd : Below w9.heap.size w9 w9.drew := by exact belC (Below.refl _ _)
     have hct2 := hct w9.drew nb S2 (hn.below' hBd)
     clear ht hn s1 s2 dd lt sb c0 b1 b2 hct
     refine wp_region_held_drew (S := fun W' => W'.cell? ⟨tb, 0, none⟩ = some (.pointer (some ⟨b, 0, none⟩)) ∧ W'.cell? ⟨b, 1, none⟩ = some (.pointer (some ⟨nb, 0, none⟩)) ∧ W'.cell? ⟨yb, 2, none⟩ = some (.int .i64 yi)) (by kernel_rfl) ⟨t5, c1, y2⟩ (fun hHeld => ?_)
     refine takeL 0 ?_
     refine takeL 1 ?_
     refine takeL 2 ?_
     refine takeL 3 ?_
     refine takeL 4 ?_
     refine takeL 5 ?_
     refine wpAnyH_ready (rs := [6]) (by kernel_rfl) (by simp) ?_
     refine AllReadyH.cons (o := _) rfl (fun K hK => ?_) AllReadyH.nil
     go_simp
     go_at_call 176
     with_reducible refine hct2.mono ?_
     clear hct2
     rintro e w7b ⟨rfl, rfl⟩
     try go_wp2_with fail
     refine hK.out _ _ ⟨t5, c1, y2⟩ (fun hHeld => ?_)
     clear hK K
     try simp only [Act.put, List.setIfInBounds_toArray, List.set_cons_zero, List.set_cons_succ]
     refine takeL 7 ?_
     refine wpAnyH_ready (rs := [8]) (by kernel_rfl) (by simp) ?_
     refine AllReadyH.cons (o := _) rfl (fun K hK => ?_) AllReadyH.nil
     go_simp
     go_at_call 65
     with_reducible refine (hys _ _).mono ?_
     rintro e w9b ⟨rfl, rfl⟩
     go_wp2_with fail
     exact ⟨rfl, Or.inr ⟨_, rfl, by rw [HE.out], by rw [HE.out]; exact HT.out.below' (by exact belC (Below.refl _ _)), HM.out.drew⟩⟩
   · have HE := Lib.hid (show r = (0, ⟨(s.drop ⟨yd, yn, yi⟩).t, ((((s.drop ⟨yd, yn, yi⟩).n.drop xd xn).2).add yd yn xi).2⟩) by rw [HR.out]; unfold TrS.rename; rw [HP.out, HQ.out]; simp [Res.bind, stopB, Hi.out, Res.run, TrS.renS, hk, hI, hy, hyk, hc, Hxy.out])
     rw [hyk] at hky
     generalize s.n.count yi = cc at hct hc
     clear hyk hy
     clear hk hI
     clear hfl
     go_enter Tryz.func182, Tryz.ntmps182
     go_wp2_with fail
     refine hpl.mono ?_
     clear hpl
     rintro e W2 ⟨hB2, rfl⟩
     have t2 := below_at hB2 t0 (cell_lt t0)
     have p2 := below_at hB2 p0 (cell_lt p0)
     have q2 := below_at hB2 q0 (cell_lt q0)
     have HT2 := H.out.below' hB2
     simp only [spotV]
     obtain ⟨W4, hW4⟩ : ∃ W4, W4 = W2.alloc (.cells #[.int .i64 xd, .string (bs xn), .int .i64 xi] 257) := ⟨_, rfl⟩
     have hB4 : Below W2.heap.size W2 W4 := by rw [hW4]; exact belC (Below.refl _ _)
     have x0 : W4.cell? ⟨W2.heap.size, 0, none⟩ = some (.int .i64 xd) := by rw [hW4]; go_simp
     have x1 : W4.cell? ⟨W2.heap.size, 1, none⟩ = some (.string (bs xn)) := by rw [hW4]; go_simp
     have x2 : W4.cell? ⟨W2.heap.size, 2, none⟩ = some (.int .i64 xi) := by rw [hW4]; go_simp
     have t4 := below_at hB4 t2 (cell_lt t2)
     have p4 := below_at hB4 p2 (cell_lt p2)
     have q4 := below_at hB4 q2 (cell_lt q2)
     have nx : ¬ S W2.heap.size := fun hk => by have := HT2.lt _ hk; omega
     have HT4 := Lib.hid (HT2.below' hB4)
     have HM4 := Lib.hid (Mod.of_below (F := S) (hB2.trans (hB4.mono hB2.size)))
     have HW4 := Lib.hid hW4
     obtain ⟨xb, hxb⟩ : ∃ xb, xb = W2.heap.size := ⟨_, rfl⟩
     clear HT2 hB4 hW4 t2 p2 q2 hB2
     go_wp2_with fail
     rw [← HW4.out]
     rw [← hxb] at x0 x1 x2 nx ⊢
     clear hxb HW4
     refine (hno _ _).mono ?_
     rintro e w9 ⟨rfl, rfl⟩
     go_wp2_with fail
     refine (hpq _ HT4.out).mono ?_
     clear hpq
     rintro e W5 ⟨hB5, rfl⟩
     have HT5 := HT4.out.below' hB5
     simp only [spotV]
     obtain ⟨W6, hW6⟩ : ∃ W6, W6 = W5.alloc (.cells #[.int .i64 yd, .string (bs yn), .int .i64 yi] 257) := ⟨_, rfl⟩
     have hB6 : Below W5.heap.size W5 W6 := by rw [hW6]; exact belC (Below.refl _ _)
     have ny : ¬ S W5.heap.size := fun hk => by have := HT5.lt _ hk; omega
     have hB56 := hB5.trans (hB6.mono hB5.size)
     have HRN := Lib.hid (show RnAt W6 tb pb qb xb W5.heap.size b p q ⟨xd, xn, xi⟩ ⟨yd, yn, yi⟩ from ⟨below_at hB56 t4 (cell_lt t4), below_at hB56 p4 (cell_lt p4), below_at hB56 q4 (cell_lt q4), below_at hB56 x0 (cell_lt x0), below_at hB56 x1 (cell_lt x1), below_at hB56 x2 (cell_lt x2), by rw [hW6]; go_simp, by rw [hW6]; go_simp, by rw [hW6]; go_simp⟩)
     have HT := Lib.hid (HT4.out.below' hB56)
     have HM := Lib.hid (HM4.out.trans (Mod.of_below (F := S) hB56))
     have HW6 := Lib.hid hW6
     obtain ⟨yb, hyb⟩ : ∃ yb, yb = W5.heap.size := ⟨_, rfl⟩
     rw [← hyb] at HRN ny
     have z0 := below_at hB5 x0 (cell_lt x0)
     have z1 := below_at hB5 x1 (cell_lt x1)
     have z2 := below_at hB5 x2 (cell_lt x2)
     have tz := below_at hB5 t4 (cell_lt t4)
     have pz := below_at hB5 p4 (cell_lt p4)
     have qz := below_at hB5 q4 (cell_lt q4)
     have hlx := cell_lt z0
     have hlt := cell_lt tz
     have hlp := cell_lt pz
     have hlq := cell_lt qz
     clear HT5 hB6 hW6 hB56 t4 p4 q4 x0 x1 x2 HT4 HM4 hB5
     go_wp2_with fail
     rw [← HW6.out]
     rw [← hyb]
     clear hyb HW6 z0 z1 z2 tz pz qz hlx hlt hlp hlq
     obtain ⟨t5, p5, q5, x0, x1, x2, y0, y1, y2⟩ := HRN.out
     simp only at x0 x1 x2 y0 y1 y2
     refine (hkx _ HT.out).mono ?_
     rintro e w5 ⟨rfl, hB5⟩
     clear t5 p5 q5 x0 x1 x2 y0 y1 y2
     have HRN := Lib.hid (HRN.out.below hB5)
     have HM := Lib.hid (HM.out.trans (Mod.of_below (F := S) hB5))
     have HT := Lib.hid (HT.out.below' hB5)
     clear hB5
     obtain ⟨t5, p5, q5, x0, x1, x2, y0, y1, y2⟩ := HRN.out
     simp only at x0 x1 x2 y0 y1 y2
     go_wp2_with fail
     refine (hin _).mono ?_
     rintro e w6 ⟨rfl, hB5⟩
     clear t5 p5 q5 x0 x1 x2 y0 y1 y2
     have HRN := Lib.hid (HRN.out.below hB5)
     have HM := Lib.hid (HM.out.trans (Mod.of_below (F := S) hB5))
     have HT := Lib.hid (HT.out.below' hB5)
     clear hB5
     obtain ⟨t5, p5, q5, x0, x1, x2, y0, y1, y2⟩ := HRN.out
     simp only at x0 x1 x2 y0 y1 y2
     go_wp2_with fail
     refine (hno _ _).mono ?_
     rintro e w9 ⟨rfl, rfl⟩
     go_wp2_with fail
     refine (hky _ HT.out).mono ?_
     rintro e w7 ⟨rfl, hB5⟩
     clear t5 p5 q5 x0 x1 x2 y0 y1 y2
     have HRN := Lib.hid (HRN.out.below hB5)
     have HM := Lib.hid (HM.out.trans (Mod.of_below (F := S) hB5))
     have HT := Lib.hid (HT.out.below' hB5)
     clear hB5
     obtain ⟨t5, p5, q5, x0, x1, x2, y0, y1, y2⟩ := HRN.out
     simp only at x0 x1 x2 y0 y1 y2
     go_wp2_with fail
     refine (hno _ _).mono ?_
     rintro e w9 ⟨rfl, rfl⟩
     go_wp2_with fail
     obtain ⟨sb, lt, ib, nb, S1, S2, c0, c1, ht, hn, s1, s2, dd, b1, b2⟩ := HT.out
     have hBd : Below w9.heap.size w9 w9.drew := by exact belC (Below.refl _ _)
     have hct2 := hct w9.drew nb S2 (hn.below' hBd)
     clear ht hn s1 s2 dd lt sb c0 b1 b2 hct
     refine wp_region_held_drew (S := fun W' => W'.cell? ⟨tb, 0, none⟩ = some (.pointer (some ⟨b, 0, none⟩)) ∧ W'.cell? ⟨b, 1, none⟩ = some (.pointer (some ⟨nb, 0, none⟩)) ∧ W'.cell? ⟨yb, 2, none⟩ = some (.int .i64 yi)) (by kernel_rfl) ⟨t5, c1, y2⟩ (fun hHeld => ?_)
     refine takeL 0 ?_
     refine takeL 1 ?_
     refine takeL 2 ?_
     refine takeL 3 ?_
     refine takeL 4 ?_
     refine takeL 5 ?_
     refine wpAnyH_ready (rs := [6]) (by kernel_rfl) (by simp) ?_
     refine AllReadyH.cons (o := _) rfl (fun K hK => ?_) AllReadyH.nil
     go_simp
     go_at_call 176
     with_reducible refine hct2.mono ?_
     clear hct2
     rintro e w7b ⟨rfl, rfl⟩
     try go_wp2_with fail
     refine hK.out _ _ ⟨t5, c1, y2⟩ (fun hHeld => ?_)
     clear hK K
     try simp only [Act.put, List.setIfInBounds_toArray, List.set_cons_zero, List.set_cons_succ]
     refine takeL 7 ?_
     refine wpAnyH_ready (rs := [8]) (by kernel_rfl) (by simp) ?_
     refine AllReadyH.cons (o := _) rfl (fun K hK => ?_) AllReadyH.nil
     go_simp
     go_at_call 65
     rw [show decide (0 < cc) = false from decide_eq_false (by omega)]
     with_reducible refine (hno _ _).mono ?_
     rintro e w9b ⟨rfl, rfl⟩
     try go_wp2_with fail
     refine hK.out _ _ ⟨t5, c1, y2⟩ (fun hHeld => ?_)
     clear hK K
     try simp only [Act.put, List.setIfInBounds_toArray, List.set_cons_zero, List.set_cons_succ]
     refine wpAnyH_done (by kernel_rfl) ?_ _
     go_wp2_with fail
     have HT := Lib.hid (HT.out.below' hBd)
     have HM := Lib.hid (HM.out.trans (Mod.of_below (F := S) hBd))
     clear t5 p5 q5 x0 x1 x2 y0 y1 y2
     have HRN := Lib.hid (HRN.out.below hBd)
     clear hBd c1
     obtain ⟨w9, hw9⟩ : ∃ x, x = w9.drew := ⟨_, rfl⟩
     rw [← hw9] at HT HM HRN ⊢
     clear hw9
     obtain ⟨t5, p5, q5, x0, x1, x2, y0, y1, y2⟩ := HRN.out
     simp only at x0 x1 x2 y0 y1 y2
     exact mK99
 · have hk2 : (s.kind xi == 1) = false := by simpa using hk
   by_cases hy : yi = 0
   · have hy2 : (yi == 0) = true := by simpa using hy
     have hy3 : (yi != 0) = false := by simpa using hy
     by_cases hf : 64 ≤ s.n.count yd
     · by_cases hd : yd = xd
       · have HE := Lib.hid (show r = (0, ⟨s.t, (((s.n.drop xd xn).2).add yd yn xi).2⟩) by rw [HR.out]; unfold TrS.rename; rw [HP.out, HQ.out]; simp [Res.bind, stopB, Hi.out, Res.run, TrS.renS, hk, hd, hy])
         have hd2 : (yd != xd) = false := by simpa using hd
         have hf2 : decide (64 ≤ s.n.count yd) = true := decide_eq_true hf
         simp only [hf2] at hfl
         clear hf hf2
         generalize s.kind xi = kk at hkx hk2
         clear hk hin
         clear hky hct hd hy
         exact mK104
       · have HE := Lib.hid (show r = (67, s) by rw [HR.out]; unfold TrS.rename; rw [HP.out, HQ.out]; simp [Res.bind, stopB, Hi.out, Res.run, hk, hd, hf, hy])
         have hd2 : (yd != xd) = true := by simpa using hd
         have hf2 : decide (64 ≤ s.n.count yd) = true := decide_eq_true hf
         simp only [hf2] at hfl
         clear hf hf2
         generalize s.kind xi = kk at hkx hk2
         clear hk hin
         clear hky hct hd hy
         go_enter Tryz.func182, Tryz.ntmps182
         go_wp2_with fail
         refine hpl.mono ?_
         clear hpl
         rintro e W2 ⟨hB2, rfl⟩
         have t2 := below_at hB2 t0 (cell_lt t0)
         have p2 := below_at hB2 p0 (cell_lt p0)
         have q2 := below_at hB2 q0 (cell_lt q0)
         have HT2 := H.out.below' hB2
         simp only [spotV]
         obtain ⟨W4, hW4⟩ : ∃ W4, W4 = W2.alloc (.cells #[.int .i64 xd, .string (bs xn), .int .i64 xi] 257) := ⟨_, rfl⟩
         have hB4 : Below W2.heap.size W2 W4 := by rw [hW4]; exact belC (Below.refl _ _)
         have x0 : W4.cell? ⟨W2.heap.size, 0, none⟩ = some (.int .i64 xd) := by rw [hW4]; go_simp
         have x1 : W4.cell? ⟨W2.heap.size, 1, none⟩ = some (.string (bs xn)) := by rw [hW4]; go_simp
         have x2 : W4.cell? ⟨W2.heap.size, 2, none⟩ = some (.int .i64 xi) := by rw [hW4]; go_simp
         have t4 := below_at hB4 t2 (cell_lt t2)
         have p4 := below_at hB4 p2 (cell_lt p2)
         have q4 := below_at hB4 q2 (cell_lt q2)
         have nx : ¬ S W2.heap.size := fun hk => by have := HT2.lt _ hk; omega
         have HT4 := Lib.hid (HT2.below' hB4)
         have HM4 := Lib.hid (Mod.of_below (F := S) (hB2.trans (hB4.mono hB2.size)))
         have HW4 := Lib.hid hW4
         obtain ⟨xb, hxb⟩ : ∃ xb, xb = W2.heap.size := ⟨_, rfl⟩
         clear HT2 hB4 hW4 t2 p2 q2 hB2
         go_wp2_with fail
         rw [← HW4.out]
         rw [← hxb] at x0 x1 x2 nx ⊢
         clear hxb HW4
         refine (hno _ _).mono ?_
         rintro e w9 ⟨rfl, rfl⟩
         go_wp2_with fail
         refine (hpq _ HT4.out).mono ?_
         clear hpq
         rintro e W5 ⟨hB5, rfl⟩
         have HT5 := HT4.out.below' hB5
         simp only [spotV]
         obtain ⟨W6, hW6⟩ : ∃ W6, W6 = W5.alloc (.cells #[.int .i64 yd, .string (bs yn), .int .i64 yi] 257) := ⟨_, rfl⟩
         have hB6 : Below W5.heap.size W5 W6 := by rw [hW6]; exact belC (Below.refl _ _)
         have ny : ¬ S W5.heap.size := fun hk => by have := HT5.lt _ hk; omega
         have hB56 := hB5.trans (hB6.mono hB5.size)
         have HRN := Lib.hid (show RnAt W6 tb pb qb xb W5.heap.size b p q ⟨xd, xn, xi⟩ ⟨yd, yn, yi⟩ from ⟨below_at hB56 t4 (cell_lt t4), below_at hB56 p4 (cell_lt p4), below_at hB56 q4 (cell_lt q4), below_at hB56 x0 (cell_lt x0), below_at hB56 x1 (cell_lt x1), below_at hB56 x2 (cell_lt x2), by rw [hW6]; go_simp, by rw [hW6]; go_simp, by rw [hW6]; go_simp⟩)
         have HT := Lib.hid (HT4.out.below' hB56)
         have HM := Lib.hid (HM4.out.trans (Mod.of_below (F := S) hB56))
         have HW6 := Lib.hid hW6
         obtain ⟨yb, hyb⟩ : ∃ yb, yb = W5.heap.size := ⟨_, rfl⟩
         rw [← hyb] at HRN ny
         have z0 := below_at hB5 x0 (cell_lt x0)
         have z1 := below_at hB5 x1 (cell_lt x1)
         have z2 := below_at hB5 x2 (cell_lt x2)
         have tz := below_at hB5 t4 (cell_lt t4)
         have pz := below_at hB5 p4 (cell_lt p4)
         have qz := below_at hB5 q4 (cell_lt q4)
         have hlx := cell_lt z0
         have hlt := cell_lt tz
         have hlp := cell_lt pz
         have hlq := cell_lt qz
         clear HT5 hB6 hW6 hB56 t4 p4 q4 x0 x1 x2 HT4 HM4 hB5
         go_wp2_with fail
         rw [← HW6.out]
         rw [← hyb]
         clear hyb HW6 z0 z1 z2 tz pz qz hlx hlt hlp hlq
         obtain ⟨t5, p5, q5, x0, x1, x2, y0, y1, y2⟩ := HRN.out
         simp only at x0 x1 x2 y0 y1 y2
         refine (hkx _ HT.out).mono ?_
         rintro e w5 ⟨rfl, hB5⟩
         exact mK105
     · have HE := Lib.hid (show r = (0, ⟨s.t, (((s.n.drop xd xn).2).add yd yn xi).2⟩) by rw [HR.out]; unfold TrS.rename; rw [HP.out, HQ.out]; simp [Res.bind, stopB, Hi.out, Res.run, TrS.renS, hk, hf, hy])
       have hf2 : decide (64 ≤ s.n.count yd) = false := decide_eq_false hf
       simp only [hf2] at hfl
       clear hf hf2
       generalize s.kind xi = kk at hkx hk2
       clear hk hin
       clear hky hct hy
       exact mK104
   have hy2 : (yi == 0) = false := by simpa using hy
   have hy3 : (yi != 0) = true := by simpa using hy
   by_cases hyk : s.kind yi = 1
   · have HE := Lib.hid (show r = (63, s) by rw [HR.out]; unfold TrS.rename; rw [HP.out, HQ.out]; simp [Res.bind, stopB, Hi.out, Res.run, hk, hy, hyk, Hxy.out])
     rw [hyk] at hky
     clear hyk hy
     generalize s.kind xi = kk at hkx hk2
     clear hk hin
     clear hfl hct
     go_enter Tryz.func182, Tryz.ntmps182
     go_wp2_with fail
     refine hpl.mono ?_
     clear hpl
     rintro e W2 ⟨hB2, rfl⟩
     have t2 := below_at hB2 t0 (cell_lt t0)
     have p2 := below_at hB2 p0 (cell_lt p0)
     have q2 := below_at hB2 q0 (cell_lt q0)
     have HT2 := H.out.below' hB2
     simp only [spotV]
     obtain ⟨W4, hW4⟩ : ∃ W4, W4 = W2.alloc (.cells #[.int .i64 xd, .string (bs xn), .int .i64 xi] 257) := ⟨_, rfl⟩
     have hB4 : Below W2.heap.size W2 W4 := by rw [hW4]; exact belC (Below.refl _ _)
     have x0 : W4.cell? ⟨W2.heap.size, 0, none⟩ = some (.int .i64 xd) := by rw [hW4]; go_simp
     have x1 : W4.cell? ⟨W2.heap.size, 1, none⟩ = some (.string (bs xn)) := by rw [hW4]; go_simp
     have x2 : W4.cell? ⟨W2.heap.size, 2, none⟩ = some (.int .i64 xi) := by rw [hW4]; go_simp
     have t4 := below_at hB4 t2 (cell_lt t2)
     have p4 := below_at hB4 p2 (cell_lt p2)
     have q4 := below_at hB4 q2 (cell_lt q2)
     have nx : ¬ S W2.heap.size := fun hk => by have := HT2.lt _ hk; omega
     have HT4 := Lib.hid (HT2.below' hB4)
     have HM4 := Lib.hid (Mod.of_below (F := S) (hB2.trans (hB4.mono hB2.size)))
     have HW4 := Lib.hid hW4
     obtain ⟨xb, hxb⟩ : ∃ xb, xb = W2.heap.size := ⟨_, rfl⟩
     clear HT2 hB4 hW4 t2 p2 q2 hB2
     go_wp2_with fail
     rw [← HW4.out]
     rw [← hxb] at x0 x1 x2 nx ⊢
     clear hxb HW4
     refine (hno _ _).mono ?_
     rintro e w9 ⟨rfl, rfl⟩
     go_wp2_with fail
     refine (hpq _ HT4.out).mono ?_
     clear hpq
     rintro e W5 ⟨hB5, rfl⟩
     have HT5 := HT4.out.below' hB5
     simp only [spotV]
     obtain ⟨W6, hW6⟩ : ∃ W6, W6 = W5.alloc (.cells #[.int .i64 yd, .string (bs yn), .int .i64 yi] 257) := ⟨_, rfl⟩
     have hB6 : Below W5.heap.size W5 W6 := by rw [hW6]; exact belC (Below.refl _ _)
     have ny : ¬ S W5.heap.size := fun hk => by have := HT5.lt _ hk; omega
     have hB56 := hB5.trans (hB6.mono hB5.size)
     have HRN := Lib.hid (show RnAt W6 tb pb qb xb W5.heap.size b p q ⟨xd, xn, xi⟩ ⟨yd, yn, yi⟩ from ⟨below_at hB56 t4 (cell_lt t4), below_at hB56 p4 (cell_lt p4), below_at hB56 q4 (cell_lt q4), below_at hB56 x0 (cell_lt x0), below_at hB56 x1 (cell_lt x1), below_at hB56 x2 (cell_lt x2), by rw [hW6]; go_simp, by rw [hW6]; go_simp, by rw [hW6]; go_simp⟩)
     have HT := Lib.hid (HT4.out.below' hB56)
     have HM := Lib.hid (HM4.out.trans (Mod.of_below (F := S) hB56))
     have HW6 := Lib.hid hW6
     obtain ⟨yb, hyb⟩ : ∃ yb, yb = W5.heap.size := ⟨_, rfl⟩
     rw [← hyb] at HRN ny
     have z0 := below_at hB5 x0 (cell_lt x0)
     have z1 := below_at hB5 x1 (cell_lt x1)
     have z2 := below_at hB5 x2 (cell_lt x2)
     have tz := below_at hB5 t4 (cell_lt t4)
     have pz := below_at hB5 p4 (cell_lt p4)
     have qz := below_at hB5 q4 (cell_lt q4)
     have hlx := cell_lt z0
     have hlt := cell_lt tz
     have hlp := cell_lt pz
     have hlq := cell_lt qz
     clear HT5 hB6 hW6 hB56 t4 p4 q4 x0 x1 x2 HT4 HM4 hB5
     go_wp2_with fail
     rw [← HW6.out]
     rw [← hyb]
     clear hyb HW6 z0 z1 z2 tz pz qz hlx hlt hlp hlq
     obtain ⟨t5, p5, q5, x0, x1, x2, y0, y1, y2⟩ := HRN.out
     simp only at x0 x1 x2 y0 y1 y2
     refine (hkx _ HT.out).mono ?_
     rintro e w5 ⟨rfl, hB5⟩
     exact mK102
   · have HE := Lib.hid (show r = (0, ⟨(s.drop ⟨yd, yn, yi⟩).t, ((((s.drop ⟨yd, yn, yi⟩).n.drop xd xn).2).add yd yn xi).2⟩) by rw [HR.out]; unfold TrS.rename; rw [HP.out, HQ.out]; simp [Res.bind, stopB, Hi.out, Res.run, TrS.renS, hk, hy, hyk, Hxy.out])
     have hyk2 : (s.kind yi == 1) = false := by simpa using hyk
     generalize s.kind yi = ky at hky hyk2
     clear hyk hy
     generalize s.kind xi = kk at hkx hk2
     clear hk hin
     clear hfl hct
     go_enter Tryz.func182, Tryz.ntmps182
     go_wp2_with fail
     refine hpl.mono ?_
     clear hpl
     rintro e W2 ⟨hB2, rfl⟩
     have t2 := below_at hB2 t0 (cell_lt t0)
     have p2 := below_at hB2 p0 (cell_lt p0)
     have q2 := below_at hB2 q0 (cell_lt q0)
     have HT2 := H.out.below' hB2
     simp only [spotV]
     obtain ⟨W4, hW4⟩ : ∃ W4, W4 = W2.alloc (.cells #[.int .i64 xd, .string (bs xn), .int .i64 xi] 257) := ⟨_, rfl⟩
     have hB4 : Below W2.heap.size W2 W4 := by rw [hW4]; exact belC (Below.refl _ _)
     have x0 : W4.cell? ⟨W2.heap.size, 0, none⟩ = some (.int .i64 xd) := by rw [hW4]; go_simp
     have x1 : W4.cell? ⟨W2.heap.size, 1, none⟩ = some (.string (bs xn)) := by rw [hW4]; go_simp
     have x2 : W4.cell? ⟨W2.heap.size, 2, none⟩ = some (.int .i64 xi) := by rw [hW4]; go_simp
     have t4 := below_at hB4 t2 (cell_lt t2)
     have p4 := below_at hB4 p2 (cell_lt p2)
     have q4 := below_at hB4 q2 (cell_lt q2)
     have nx : ¬ S W2.heap.size := fun hk => by have := HT2.lt _ hk; omega
     have HT4 := Lib.hid (HT2.below' hB4)
     have HM4 := Lib.hid (Mod.of_below (F := S) (hB2.trans (hB4.mono hB2.size)))
     have HW4 := Lib.hid hW4
     obtain ⟨xb, hxb⟩ : ∃ xb, xb = W2.heap.size := ⟨_, rfl⟩
     clear HT2 hB4 hW4 t2 p2 q2 hB2
     go_wp2_with fail
     rw [← HW4.out]
     rw [← hxb] at x0 x1 x2 nx ⊢
     clear hxb HW4
     refine (hno _ _).mono ?_
     rintro e w9 ⟨rfl, rfl⟩
     go_wp2_with fail
     refine (hpq _ HT4.out).mono ?_
     clear hpq
     rintro e W5 ⟨hB5, rfl⟩
     have HT5 := HT4.out.below' hB5
     simp only [spotV]
     obtain ⟨W6, hW6⟩ : ∃ W6, W6 = W5.alloc (.cells #[.int .i64 yd, .string (bs yn), .int .i64 yi] 257) := ⟨_, rfl⟩
     have hB6 : Below W5.heap.size W5 W6 := by rw [hW6]; exact belC (Below.refl _ _)
     have ny : ¬ S W5.heap.size := fun hk => by have := HT5.lt _ hk; omega
     have hB56 := hB5.trans (hB6.mono hB5.size)
     have HRN := Lib.hid (show RnAt W6 tb pb qb xb W5.heap.size b p q ⟨xd, xn, xi⟩ ⟨yd, yn, yi⟩ from ⟨below_at hB56 t4 (cell_lt t4), below_at hB56 p4 (cell_lt p4), below_at hB56 q4 (cell_lt q4), below_at hB56 x0 (cell_lt x0), below_at hB56 x1 (cell_lt x1), below_at hB56 x2 (cell_lt x2), by rw [hW6]; go_simp, by rw [hW6]; go_simp, by rw [hW6]; go_simp⟩)
     have HT := Lib.hid (HT4.out.below' hB56)
     have HM := Lib.hid (HM4.out.trans (Mod.of_below (F := S) hB56))
     have HW6 := Lib.hid hW6
     obtain ⟨yb, hyb⟩ : ∃ yb, yb = W5.heap.size := ⟨_, rfl⟩
     rw [← hyb] at HRN ny
     have z0 := below_at hB5 x0 (cell_lt x0)
     have z1 := below_at hB5 x1 (cell_lt x1)
     have z2 := below_at hB5 x2 (cell_lt x2)
     have tz := below_at hB5 t4 (cell_lt t4)
     have pz := below_at hB5 p4 (cell_lt p4)
     have qz := below_at hB5 q4 (cell_lt q4)
     have hlx := cell_lt z0
     have hlt := cell_lt tz
     have hlp := cell_lt pz
     have hlq := cell_lt qz
     clear HT5 hB6 hW6 hB56 t4 p4 q4 x0 x1 x2 HT4 HM4 hB5
     go_wp2_with fail
     rw [← HW6.out]
     rw [← hyb]
     clear hyb HW6 z0 z1 z2 tz pz qz hlx hlt hlp hlq
     obtain ⟨t5, p5, q5, x0, x1, x2, y0, y1, y2⟩ := HRN.out
     simp only at x0 x1 x2 y0 y1 y2
     refine (hkx _ HT.out).mono ?_
     rintro e w5 ⟨rfl, hB5⟩
     clear t5 p5 q5 x0 x1 x2 y0 y1 y2
     have HRN := Lib.hid (HRN.out.below hB5)
     have HM := Lib.hid (HM.out.trans (Mod.of_below (F := S) hB5))
     have HT := Lib.hid (HT.out.below' hB5)
     clear hB5
     obtain ⟨t5, p5, q5, x0, x1, x2, y0, y1, y2⟩ := HRN.out
     simp only at x0 x1 x2 y0 y1 y2
     go_wp2_with fail
     refine (hno _ _).mono ?_
     rintro e w9 ⟨rfl, rfl⟩
     go_wp2_with fail
     refine (hky _ HT.out).mono ?_
     rintro e w7 ⟨rfl, hB5⟩
     clear t5 p5 q5 x0 x1 x2 y0 y1 y2
     have HRN := Lib.hid (HRN.out.below hB5)
     have HM := Lib.hid (HM.out.trans (Mod.of_below (F := S) hB5))
     have HT := Lib.hid (HT.out.below' hB5)
     clear hB5
     obtain ⟨t5, p5, q5, x0, x1, x2, y0, y1, y2⟩ := HRN.out
     simp only at x0 x1 x2 y0 y1 y2
     go_wp2_with fail
     refine (hno _ _).mono ?_
     rintro e w9 ⟨rfl, rfl⟩
     go_wp2_with fail
     exact mK99
end Go.Proofs.YtajbooppoohplaaGreatDoor
