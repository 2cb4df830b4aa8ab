/- package tree: Link -/
import Derived.Test.YtakbalmbkokklaaGreatTree4
namespace Go.Proofs.YtakbalmbkokklaaGreat
open Go.RowKit Esch Go.Shelf

set_option maxRecDepth 100000 in
set_option maxHeartbeats 4000000 in
theorem link1_any (W : World) (b tb pb qb : Nat) (S : Nat → Prop) (s : TrS) (h : TreeAt W b S s) (hok : s.ok) (p q : Nm)
    (t0 : W.cell? ⟨tb, 0, none⟩ = some (.pointer (some ⟨b, 0, none⟩))) (p0 : W.cell? ⟨pb, 0, none⟩ = some (.string (bs p))) (q0 : W.cell? ⟨qb, 0, none⟩ = some (.string (bs q))) :
    Calls Tryz.prog 53 #[.pointer (some ⟨tb, 0, none⟩), .pointer (some ⟨pb, 0, none⟩), .pointer (some ⟨qb, 0, none⟩)] W (DoPost (ChgR W b S ((s.lnk p q).run s))) := by
  have hrs := trResolve_any W b S s h p
  have hpl := fun W' hW => trPlace_any W' b S s hW q 61
  have hno := stop_no
  have hys := stop_yes
  have HT := Lib.hid h
  obtain ⟨r, hr⟩ : ∃ r, r = (s.lnk p q).run s := ⟨_, rfl⟩
  rw [← hr]
  have HR := Lib.hid hr
  clear h hr
  cases hp : s.resolve p with
  | err e =>
    rw [hp] at hrs
    have HE := Lib.hid (show r = (e, s) by rw [HR.out]; unfold TrS.lnk; rw [hp]; rfl)
    clear hp hpl
    go_enter Tryz.func53, Tryz.ntmps53
    have HM := Lib.hid (Mod.refl S W)
    go_wp2_with fail
    refine hrs.mono ?_
    clear hrs
    rintro e W2 ⟨hB5, rfl⟩
    go_wp2_with fail
    exact ⟨rfl, Or.inr ⟨_, rfl, by rw [HE.out], by rw [HE.out]; exact HT.out.below' hB5, HM.out.trans (Mod.of_below (F := S) hB5)⟩⟩
  | ok i =>
  rw [hp] at hrs
  have HP := Lib.hid hp
  clear hp
  have hkd2 := fun W hW => trKind_any W b S s hW i
  by_cases hk : s.kind i = 1
  · have HE := Lib.hid (show r = (63, s) by rw [HR.out]; unfold TrS.lnk; rw [HP.out]; simp [Res.bind, stopB, hk, Res.run])
    rw [hk] at hkd2
    clear hk hpl
    go_enter Tryz.func53, Tryz.ntmps53
    have HM := Lib.hid (Mod.refl S W)
    go_wp2_with fail
    refine hrs.mono ?_
    clear hrs
    rintro e W2 ⟨hB5, rfl⟩
    have t1 := below_at hB5 t0 (cell_lt t0)
    have p1 := below_at hB5 p0 (cell_lt p0)
    have q1 := below_at hB5 q0 (cell_lt q0)
    have HT := Lib.hid (HT.out.below' hB5)
    have HM := Lib.hid (HM.out.trans (Mod.of_below (F := S) hB5))
    clear t0 p0 q0 hB5
    have t0 := t1
    have p0 := p1
    have q0 := q1
    clear t1 p1 q1
    go_wp2_with fail
    refine (hkd2 _ HT.out).mono ?_
    rintro e W3 ⟨rfl, hB5⟩
    have t1 := below_at hB5 t0 (cell_lt t0)
    have p1 := below_at hB5 p0 (cell_lt p0)
    have q1 := below_at hB5 q0 (cell_lt q0)
    have HT := Lib.hid (HT.out.below' hB5)
    have HM := Lib.hid (HM.out.trans (Mod.of_below (F := S) hB5))
    clear t0 p0 q0 hB5
    have t0 := t1
    have p0 := p1
    have q0 := q1
    clear t1 p1 q1
    go_wp2_with fail
    refine (hys _ _).mono ?_
    rintro e w9 ⟨rfl, rfl⟩
    go_wp2_with fail
    exact ⟨rfl, Or.inr ⟨_, rfl, by rw [HE.out], by rw [HE.out]; exact HT.out, HM.out⟩⟩
  have hk2 : (s.kind i == 1) = false := by simpa using hk
  have Hk := Lib.hid hk
  clear hk
  have hst2 := fun W ib S1 hW => inoStat_any W ib S1 s.t hW i
  generalize s.kind i = kk at hkd2 hk2
  obtain ⟨⟨y0, y1, y2, y3, y4⟩, hy⟩ : ∃ y, y = s.t.at i := ⟨_, rfl⟩
  rw [← hy] at hst2
  simp only [statV] at hst2
  have HY := Lib.hid hy
  generalize s.t.has i = yb at hst2
  clear hy
  cases hq : s.place q 61 with
  | err e =>
    rw [hq] at hpl
    have HE := Lib.hid (show r = (e, s) by rw [HR.out]; unfold TrS.lnk; rw [HP.out, hq]; simp [Res.bind, stopB, Hk.out, Res.run])
    clear hq hst2
    go_enter Tryz.func53, Tryz.ntmps53
    have HM := Lib.hid (Mod.refl S W)
    go_wp2_with fail
    refine hrs.mono ?_
    clear hrs
    rintro e W2 ⟨hB5, rfl⟩
    have t1 := below_at hB5 t0 (cell_lt t0)
    have p1 := below_at hB5 p0 (cell_lt p0)
    have q1 := below_at hB5 q0 (cell_lt q0)
    have HT := Lib.hid (HT.out.below' hB5)
    have HM := Lib.hid (HM.out.trans (Mod.of_below (F := S) hB5))
    clear t0 p0 q0 hB5
    have t0 := t1
    have p0 := p1
    have q0 := q1
    clear t1 p1 q1
    go_wp2_with fail
    refine (hkd2 _ HT.out).mono ?_
    rintro e W3 ⟨rfl, hB5⟩
    have t1 := below_at hB5 t0 (cell_lt t0)
    have p1 := below_at hB5 p0 (cell_lt p0)
    have q1 := below_at hB5 q0 (cell_lt q0)
    have HT := Lib.hid (HT.out.below' hB5)
    have HM := Lib.hid (HM.out.trans (Mod.of_below (F := S) hB5))
    clear t0 p0 q0 hB5
    have t0 := t1
    have p0 := p1
    have q0 := q1
    clear t1 p1 q1
    go_wp2_with fail
    refine (hno _ _).mono ?_
    rintro e w9 ⟨rfl, rfl⟩
    go_wp2_with fail
    refine (hpl _ HT.out).mono ?_
    clear hpl
    rintro e W5 ⟨hB5, rfl⟩
    go_wp2_with fail
    exact ⟨rfl, Or.inr ⟨_, rfl, by rw [HE.out], by rw [HE.out]; exact HT.out.below' hB5, HM.out.trans (Mod.of_below (F := S) hB5)⟩⟩
  | ok x =>
  rw [hq] at hpl
  obtain ⟨xd, xn, xi⟩ := x
  have HQ := Lib.hid hq
  clear hq
  by_cases hx : xi = 0
  rotate_left 1
  · have HE := Lib.hid (show r = (61, s) by rw [HR.out]; unfold TrS.lnk; rw [HP.out, HQ.out]; simp [Res.bind, stopB, Hk.out, hx, Res.run])
    have hx2 : (xi != 0) = true := by simpa using hx
    clear hx hst2
    go_enter Tryz.func53, Tryz.ntmps53
    have HM := Lib.hid (Mod.refl S W)
    go_wp2_with fail
    refine hrs.mono ?_
    clear hrs
    rintro e W2 ⟨hB5, rfl⟩
    have t1 := below_at hB5 t0 (cell_lt t0)
    have p1 := below_at hB5 p0 (cell_lt p0)
    have q1 := below_at hB5 q0 (cell_lt q0)
    have HT := Lib.hid (HT.out.below' hB5)
    have HM := Lib.hid (HM.out.trans (Mod.of_below (F := S) hB5))
    clear t0 p0 q0 hB5
    have t0 := t1
    have p0 := p1
    have q0 := q1
    clear t1 p1 q1
    go_wp2_with fail
    refine (hkd2 _ HT.out).mono ?_
    rintro e W3 ⟨rfl, hB5⟩
    have t1 := below_at hB5 t0 (cell_lt t0)
    have p1 := below_at hB5 p0 (cell_lt p0)
    have q1 := below_at hB5 q0 (cell_lt q0)
    have HT := Lib.hid (HT.out.below' hB5)
    have HM := Lib.hid (HM.out.trans (Mod.of_below (F := S) hB5))
    clear t0 p0 q0 hB5
    have t0 := t1
    have p0 := p1
    have q0 := q1
    clear t1 p1 q1
    go_wp2_with fail
    refine (hno _ _).mono ?_
    rintro e w9 ⟨rfl, rfl⟩
    go_wp2_with fail
    refine (hpl _ HT.out).mono ?_
    clear hpl
    rintro e W5 ⟨hB5, rfl⟩
    simp only [spotV]
    obtain ⟨W6, hW6⟩ : ∃ W6, W6 = W5.alloc (.cells #[.int .i64 xd, .string (bs xn), .int .i64 xi] 75) := ⟨_, rfl⟩
    have hB6 : Below W5.heap.size W5 W6 := by rw [hW6]; exact belC (Below.refl _ _)
    have hB56 := hB5.trans (hB6.mono hB5.size)
    have x0 : W6.cell? ⟨W5.heap.size, 0, none⟩ = some (.int .i64 xd) := by rw [hW6]; go_simp
    have x1 : W6.cell? ⟨W5.heap.size, 1, none⟩ = some (.string (bs xn)) := by rw [hW6]; go_simp
    have x2 : W6.cell? ⟨W5.heap.size, 2, none⟩ = some (.int .i64 xi) := by rw [hW6]; go_simp
    have HW6 := Lib.hid hW6
    have t1 := below_at hB56 t0 (cell_lt t0)
    have p1 := below_at hB56 p0 (cell_lt p0)
    have q1 := below_at hB56 q0 (cell_lt q0)
    have HT6 := Lib.hid (HT.out.below' hB56)
    have HM6 := Lib.hid (HM.out.trans (Mod.of_below (F := S) hB56))
    clear hW6 hB6 hB56
    go_wp2_with fail
    rw [← HW6.out]
    obtain ⟨xb, hxb⟩ : ∃ xb, xb = W5.heap.size := ⟨_, rfl⟩
    rw [← hxb] at x0 x1 x2 ⊢
    clear hxb HW6 t0 p0 q0 HT HM hB5
    have t0 := t1
    have p0 := p1
    have q0 := q1
    have HT := Lib.hid HT6.out
    have HM := Lib.hid HM6.out
    clear t1 p1 q1 HT6 HM6
    refine (hys _ _).mono ?_
    rintro e w9 ⟨rfl, rfl⟩
    go_wp2_with fail
    exact ⟨rfl, Or.inr ⟨_, rfl, by rw [HE.out], by rw [HE.out]; exact HT.out, HM.out⟩⟩
  have hx2 : (xi != 0) = false := by simpa using hx
  have Hx := Lib.hid hx
  clear hx
  have HL := Lib.hid (show (s.t.at i).links = y2 by rw [← HY.out])
  by_cases hl : 8 ≤ y2
  · have HE := Lib.hid (show r = (66, s) by rw [HR.out]; unfold TrS.lnk; rw [HP.out, HQ.out]; simp [Res.bind, stopB, Hk.out, Hx.out, HL.out, hl, Res.run])
    have hl2 : decide (y2 ≥ 8) = true := decide_eq_true hl
    go_enter Tryz.func53, Tryz.ntmps53
    have HM := Lib.hid (Mod.refl S W)
    go_wp2_with fail
    refine hrs.mono ?_
    clear hrs
    rintro e W2 ⟨hB5, rfl⟩
    have t1 := below_at hB5 t0 (cell_lt t0)
    have p1 := below_at hB5 p0 (cell_lt p0)
    have q1 := below_at hB5 q0 (cell_lt q0)
    have HT := Lib.hid (HT.out.below' hB5)
    have HM := Lib.hid (HM.out.trans (Mod.of_below (F := S) hB5))
    clear t0 p0 q0 hB5
    have t0 := t1
    have p0 := p1
    have q0 := q1
    clear t1 p1 q1
    go_wp2_with fail
    refine (hkd2 _ HT.out).mono ?_
    rintro e W3 ⟨rfl, hB5⟩
    have t1 := below_at hB5 t0 (cell_lt t0)
    have p1 := below_at hB5 p0 (cell_lt p0)
    have q1 := below_at hB5 q0 (cell_lt q0)
    have HT := Lib.hid (HT.out.below' hB5)
    have HM := Lib.hid (HM.out.trans (Mod.of_below (F := S) hB5))
    clear t0 p0 q0 hB5
    have t0 := t1
    have p0 := p1
    have q0 := q1
    clear t1 p1 q1
    go_wp2_with fail
    refine (hno _ _).mono ?_
    rintro e w9 ⟨rfl, rfl⟩
    go_wp2_with fail
    refine (hpl _ HT.out).mono ?_
    clear hpl
    rintro e W5 ⟨hB5, rfl⟩
    simp only [spotV]
    obtain ⟨W6, hW6⟩ : ∃ W6, W6 = W5.alloc (.cells #[.int .i64 xd, .string (bs xn), .int .i64 xi] 75) := ⟨_, rfl⟩
    have hB6 : Below W5.heap.size W5 W6 := by rw [hW6]; exact belC (Below.refl _ _)
    have hB56 := hB5.trans (hB6.mono hB5.size)
    have x0 : W6.cell? ⟨W5.heap.size, 0, none⟩ = some (.int .i64 xd) := by rw [hW6]; go_simp
    have x1 : W6.cell? ⟨W5.heap.size, 1, none⟩ = some (.string (bs xn)) := by rw [hW6]; go_simp
    have x2 : W6.cell? ⟨W5.heap.size, 2, none⟩ = some (.int .i64 xi) := by rw [hW6]; go_simp
    have HW6 := Lib.hid hW6
    have t1 := below_at hB56 t0 (cell_lt t0)
    have p1 := below_at hB56 p0 (cell_lt p0)
    have q1 := below_at hB56 q0 (cell_lt q0)
    have HT6 := Lib.hid (HT.out.below' hB56)
    have HM6 := Lib.hid (HM.out.trans (Mod.of_below (F := S) hB56))
    clear hW6 hB6 hB56
    go_wp2_with fail
    rw [← HW6.out]
    obtain ⟨xb, hxb⟩ : ∃ xb, xb = W5.heap.size := ⟨_, rfl⟩
    rw [← hxb] at x0 x1 x2 ⊢
    clear hxb HW6 t0 p0 q0 HT HM hB5
    have t0 := t1
    have p0 := p1
    have q0 := q1
    have HT := Lib.hid HT6.out
    have HM := Lib.hid HM6.out
    clear t1 p1 q1 HT6 HM6
    obtain ⟨sb, lt, ib, nb, S1, S2, c0, c1, ht, hn, s1, s2, dd, b1, b2⟩ := HT.out
    have hst3 := hst2 _ ib S1 ht
    clear ht hn s1 s2 dd lt sb c1 b2 b1 hst2
    refine (hno _ _).mono ?_
    rintro e w9 ⟨rfl, rfl⟩
    go_wp2_with fail
    refine hst3.mono ?_
    clear hst3
    rintro e W8 ⟨rfl, hB8⟩
    obtain ⟨W9, hW9⟩ : ∃ W9, W9 = W8.alloc (.cells #[.int .i64 y0, .int .i64 y1, .int .i64 y2, .int .i64 y4] 32) := ⟨_, rfl⟩
    have hB9 : Below W8.heap.size W8 W9 := by rw [hW9]; exact belC (Below.refl _ _)
    have z2 : W9.cell? ⟨W8.heap.size, 2, none⟩ = some (.int .i64 y2) := by rw [hW9]; go_simp
    have hB5 := hB8.trans (hB9.mono hB8.size)
    have HW9 := Lib.hid hW9
    clear hB8 hB9 hW9 c0
    go_wp2_with fail
    rw [← HW9.out]
    obtain ⟨zb, hzb⟩ : ∃ zb, zb = W8.heap.size := ⟨_, rfl⟩
    rw [← hzb] at z2 ⊢
    clear hzb HW9
    have x0a := below_at hB5 x0 (cell_lt x0)
    have x1a := below_at hB5 x1 (cell_lt x1)
    have x2a := below_at hB5 x2 (cell_lt x2)
    clear x0 x1 x2
    have x0 := x0a
    have x1 := x1a
    have x2 := x2a
    clear x0a x1a x2a
    have t1 := below_at hB5 t0 (cell_lt t0)
    have p1 := below_at hB5 p0 (cell_lt p0)
    have q1 := below_at hB5 q0 (cell_lt q0)
    have HT := Lib.hid (HT.out.below' hB5)
    have HM := Lib.hid (HM.out.trans (Mod.of_below (F := S) hB5))
    clear t0 p0 q0 hB5
    have t0 := t1
    have p0 := p1
    have q0 := q1
    clear t1 p1 q1
    go_wp2_with fail
    refine (hys _ _).mono ?_
    rintro e w9 ⟨rfl, rfl⟩
    go_wp2_with fail
    exact ⟨rfl, Or.inr ⟨_, rfl, by rw [HE.out], by rw [HE.out]; exact HT.out, HM.out⟩⟩
  have hl2 : decide (y2 ≥ 8) = false := decide_eq_false hl
  have Hl := Lib.hid hl
  have hfl := fun W' hW => trFull_any W' b S s hW xd
  by_cases hf : 64 ≤ s.n.count xd
  · have HE := Lib.hid (show r = (67, s) by rw [HR.out]; unfold TrS.lnk; rw [HP.out, HQ.out]; simp [Res.bind, stopB, Hk.out, Hx.out, HL.out, Hl.out, hf, Res.run])
    rw [decide_eq_true hf] at hfl
    clear hf hl
    go_enter Tryz.func53, Tryz.ntmps53
    have HM := Lib.hid (Mod.refl S W)
    go_wp2_with fail
    refine hrs.mono ?_
    clear hrs
    rintro e W2 ⟨hB5, rfl⟩
    have t1 := below_at hB5 t0 (cell_lt t0)
    have p1 := below_at hB5 p0 (cell_lt p0)
    have q1 := below_at hB5 q0 (cell_lt q0)
    have HT := Lib.hid (HT.out.below' hB5)
    have HM := Lib.hid (HM.out.trans (Mod.of_below (F := S) hB5))
    clear t0 p0 q0 hB5
    have t0 := t1
    have p0 := p1
    have q0 := q1
    clear t1 p1 q1
    go_wp2_with fail
    refine (hkd2 _ HT.out).mono ?_
    rintro e W3 ⟨rfl, hB5⟩
    have t1 := below_at hB5 t0 (cell_lt t0)
    have p1 := below_at hB5 p0 (cell_lt p0)
    have q1 := below_at hB5 q0 (cell_lt q0)
    have HT := Lib.hid (HT.out.below' hB5)
    have HM := Lib.hid (HM.out.trans (Mod.of_below (F := S) hB5))
    clear t0 p0 q0 hB5
    have t0 := t1
    have p0 := p1
    have q0 := q1
    clear t1 p1 q1
    go_wp2_with fail
    refine (hno _ _).mono ?_
    rintro e w9 ⟨rfl, rfl⟩
    go_wp2_with fail
    refine (hpl _ HT.out).mono ?_
    clear hpl
    rintro e W5 ⟨hB5, rfl⟩
    simp only [spotV]
    obtain ⟨W6, hW6⟩ : ∃ W6, W6 = W5.alloc (.cells #[.int .i64 xd, .string (bs xn), .int .i64 xi] 75) := ⟨_, rfl⟩
    have hB6 : Below W5.heap.size W5 W6 := by rw [hW6]; exact belC (Below.refl _ _)
    have hB56 := hB5.trans (hB6.mono hB5.size)
    have x0 : W6.cell? ⟨W5.heap.size, 0, none⟩ = some (.int .i64 xd) := by rw [hW6]; go_simp
    have x1 : W6.cell? ⟨W5.heap.size, 1, none⟩ = some (.string (bs xn)) := by rw [hW6]; go_simp
    have x2 : W6.cell? ⟨W5.heap.size, 2, none⟩ = some (.int .i64 xi) := by rw [hW6]; go_simp
    have HW6 := Lib.hid hW6
    have t1 := below_at hB56 t0 (cell_lt t0)
    have p1 := below_at hB56 p0 (cell_lt p0)
    have q1 := below_at hB56 q0 (cell_lt q0)
    have HT6 := Lib.hid (HT.out.below' hB56)
    have HM6 := Lib.hid (HM.out.trans (Mod.of_below (F := S) hB56))
    clear hW6 hB6 hB56
    go_wp2_with fail
    rw [← HW6.out]
    obtain ⟨xb, hxb⟩ : ∃ xb, xb = W5.heap.size := ⟨_, rfl⟩
    rw [← hxb] at x0 x1 x2 ⊢
    clear hxb HW6 t0 p0 q0 HT HM hB5
    have t0 := t1
    have p0 := p1
    have q0 := q1
    have HT := Lib.hid HT6.out
    have HM := Lib.hid HM6.out
    clear t1 p1 q1 HT6 HM6
    obtain ⟨sb, lt, ib, nb, S1, S2, c0, c1, ht, hn, s1, s2, dd, b1, b2⟩ := HT.out
    have hst3 := hst2 _ ib S1 ht
    clear ht hn s1 s2 dd lt sb c1 b2 b1 hst2
    refine (hno _ _).mono ?_
    rintro e w9 ⟨rfl, rfl⟩
    go_wp2_with fail
    refine hst3.mono ?_
    clear hst3
    rintro e W8 ⟨rfl, hB8⟩
    obtain ⟨W9, hW9⟩ : ∃ W9, W9 = W8.alloc (.cells #[.int .i64 y0, .int .i64 y1, .int .i64 y2, .int .i64 y4] 32) := ⟨_, rfl⟩
    have hB9 : Below W8.heap.size W8 W9 := by rw [hW9]; exact belC (Below.refl _ _)
    have z2 : W9.cell? ⟨W8.heap.size, 2, none⟩ = some (.int .i64 y2) := by rw [hW9]; go_simp
    have hB5 := hB8.trans (hB9.mono hB8.size)
    have HW9 := Lib.hid hW9
    clear hB8 hB9 hW9 c0
    go_wp2_with fail
    rw [← HW9.out]
    obtain ⟨zb, hzb⟩ : ∃ zb, zb = W8.heap.size := ⟨_, rfl⟩
    rw [← hzb] at z2 ⊢
    clear hzb HW9
    have x0a := below_at hB5 x0 (cell_lt x0)
    have x1a := below_at hB5 x1 (cell_lt x1)
    have x2a := below_at hB5 x2 (cell_lt x2)
    clear x0 x1 x2
    have x0 := x0a
    have x1 := x1a
    have x2 := x2a
    clear x0a x1a x2a
    have t1 := below_at hB5 t0 (cell_lt t0)
    have p1 := below_at hB5 p0 (cell_lt p0)
    have q1 := below_at hB5 q0 (cell_lt q0)
    have HT := Lib.hid (HT.out.below' hB5)
    have HM := Lib.hid (HM.out.trans (Mod.of_below (F := S) hB5))
    clear t0 p0 q0 hB5
    have t0 := t1
    have p0 := p1
    have q0 := q1
    clear t1 p1 q1
    go_wp2_with fail
    refine (hno _ _).mono ?_
    rintro e w9 ⟨rfl, rfl⟩
    go_wp2_with fail
    refine (hfl _ HT.out).mono ?_
    clear hfl
    rintro e w8 ⟨rfl, rfl⟩
    go_wp2_with fail
    refine (hys _ _).mono ?_
    rintro e w9 ⟨rfl, rfl⟩
    go_wp2_with fail
    exact ⟨rfl, Or.inr ⟨_, rfl, by rw [HE.out], by rw [HE.out]; exact HT.out, HM.out⟩⟩
  have HE := Lib.hid (show r = (0, s.add ⟨xd, xn, xi⟩ i) by rw [HR.out]; unfold TrS.lnk; rw [HP.out, HQ.out]; simp [Res.bind, stopB, Hk.out, Hx.out, HL.out, Hl.out, hf, Res.run])
  rw [decide_eq_false hf] at hfl
  clear hf hl
  go_enter Tryz.func53, Tryz.ntmps53
  have HM := Lib.hid (Mod.refl S W)
  go_wp2_with fail
  refine hrs.mono ?_
  clear hrs
  rintro e W2 ⟨hB5, rfl⟩
  have t1 := below_at hB5 t0 (cell_lt t0)
  have p1 := below_at hB5 p0 (cell_lt p0)
  have q1 := below_at hB5 q0 (cell_lt q0)
  have HT := Lib.hid (HT.out.below' hB5)
  have HM := Lib.hid (HM.out.trans (Mod.of_below (F := S) hB5))
  clear t0 p0 q0 hB5
  have t0 := t1
  have p0 := p1
  have q0 := q1
  clear t1 p1 q1
  go_wp2_with fail
  refine (hkd2 _ HT.out).mono ?_
  rintro e W3 ⟨rfl, hB5⟩
  have t1 := below_at hB5 t0 (cell_lt t0)
  have p1 := below_at hB5 p0 (cell_lt p0)
  have q1 := below_at hB5 q0 (cell_lt q0)
  have HT := Lib.hid (HT.out.below' hB5)
  have HM := Lib.hid (HM.out.trans (Mod.of_below (F := S) hB5))
  clear t0 p0 q0 hB5
  have t0 := t1
  have p0 := p1
  have q0 := q1
  clear t1 p1 q1
  go_wp2_with fail
  refine (hno _ _).mono ?_
  rintro e w9 ⟨rfl, rfl⟩
  go_wp2_with fail
  refine (hpl _ HT.out).mono ?_
  clear hpl
  rintro e W5 ⟨hB5, rfl⟩
  simp only [spotV]
  obtain ⟨W6, hW6⟩ : ∃ W6, W6 = W5.alloc (.cells #[.int .i64 xd, .string (bs xn), .int .i64 xi] 75) := ⟨_, rfl⟩
  have hB6 : Below W5.heap.size W5 W6 := by rw [hW6]; exact belC (Below.refl _ _)
  have hB56 := hB5.trans (hB6.mono hB5.size)
  have x0 : W6.cell? ⟨W5.heap.size, 0, none⟩ = some (.int .i64 xd) := by rw [hW6]; go_simp
  have x1 : W6.cell? ⟨W5.heap.size, 1, none⟩ = some (.string (bs xn)) := by rw [hW6]; go_simp
  have x2 : W6.cell? ⟨W5.heap.size, 2, none⟩ = some (.int .i64 xi) := by rw [hW6]; go_simp
  have HW6 := Lib.hid hW6
  have t1 := below_at hB56 t0 (cell_lt t0)
  have p1 := below_at hB56 p0 (cell_lt p0)
  have q1 := below_at hB56 q0 (cell_lt q0)
  have HT6 := Lib.hid (HT.out.below' hB56)
  have HM6 := Lib.hid (HM.out.trans (Mod.of_below (F := S) hB56))
  clear hW6 hB6 hB56
  go_wp2_with fail
  rw [← HW6.out]
  obtain ⟨xb, hxb⟩ : ∃ xb, xb = W5.heap.size := ⟨_, rfl⟩
  rw [← hxb] at x0 x1 x2 ⊢
  clear hxb HW6 t0 p0 q0 HT HM hB5
  have t0 := t1
  have p0 := p1
  have q0 := q1
  have HT := Lib.hid HT6.out
  have HM := Lib.hid HM6.out
  clear t1 p1 q1 HT6 HM6
  obtain ⟨sb, lt, ib, nb, S1, S2, c0, c1, ht, hn, s1, s2, dd, b1, b2⟩ := HT.out
  have hst3 := hst2 _ ib S1 ht
  clear ht hn s1 s2 dd lt sb c1 b2 b1 hst2
  refine (hno _ _).mono ?_
  rintro e w9 ⟨rfl, rfl⟩
  go_wp2_with fail
  refine hst3.mono ?_
  clear hst3
  rintro e W8 ⟨rfl, hB8⟩
  obtain ⟨W9, hW9⟩ : ∃ W9, W9 = W8.alloc (.cells #[.int .i64 y0, .int .i64 y1, .int .i64 y2, .int .i64 y4] 32) := ⟨_, rfl⟩
  have hB9 : Below W8.heap.size W8 W9 := by rw [hW9]; exact belC (Below.refl _ _)
  have z2 : W9.cell? ⟨W8.heap.size, 2, none⟩ = some (.int .i64 y2) := by rw [hW9]; go_simp
  have hB5 := hB8.trans (hB9.mono hB8.size)
  have HW9 := Lib.hid hW9
  clear hB8 hB9 hW9 c0
  go_wp2_with fail
  rw [← HW9.out]
  obtain ⟨zb, hzb⟩ : ∃ zb, zb = W8.heap.size := ⟨_, rfl⟩
  rw [← hzb] at z2 ⊢
  clear hzb HW9
  have x0a := below_at hB5 x0 (cell_lt x0)
  have x1a := below_at hB5 x1 (cell_lt x1)
  have x2a := below_at hB5 x2 (cell_lt x2)
  clear x0 x1 x2
  have x0 := x0a
  have x1 := x1a
  have x2 := x2a
  clear x0a x1a x2a
  have t1 := below_at hB5 t0 (cell_lt t0)
  have p1 := below_at hB5 p0 (cell_lt p0)
  have q1 := below_at hB5 q0 (cell_lt q0)
  have HT := Lib.hid (HT.out.below' hB5)
  have HM := Lib.hid (HM.out.trans (Mod.of_below (F := S) hB5))
  clear t0 p0 q0 hB5
  have t0 := t1
  have p0 := p1
  have q0 := q1
  clear t1 p1 q1
  go_wp2_with fail
  refine (hno _ _).mono ?_
  rintro e w9 ⟨rfl, rfl⟩
  go_wp2_with fail
  refine (hfl _ HT.out).mono ?_
  clear hfl
  rintro e w8 ⟨rfl, rfl⟩
  go_wp2_with fail
  refine (hno _ _).mono ?_
  rintro e w9 ⟨rfl, rfl⟩
  go_wp2_with fail
  have had := trAdd_any _ b S s HT.out hok ⟨xd, xn, xi⟩ i
  simp only [spotV] at had
  refine had.mono ?_
  clear had
  rintro e w12 ⟨rfl, hT12, hM12⟩
  go_wp2_with fail
  go_end0
  exact Or.inl ⟨rfl, by rw [HE.out], by rw [HE.out]; exact hT12, HM.out.trans hM12⟩
end Go.Proofs.YtakbalmbkokklaaGreat
