import Derived.Test.YtajbooppoohplaaGreatDoorMac
import Derived.Test.YtajbooppoohplaaGreatDoorTree9
import Derived.Test.YtajbooppoohplaaGreatDoorPkTre
import Derived.Test.YtajbooppoohplaaGreatDoorPkExt
/- package tree: Rename, from outside -/
set_option maxRecDepth 100000
set_option maxHeartbeats 4000000
namespace Go.Proofs.YtajbooppoohplaaGreatDoor
open Go.RowKit Esch Go.Shelf

theorem trRename_any (w : World) (b : Nat) (S : Nat → Prop) (s : TrS) (h : TreeAt w b S s) (hok : s.ok) (p q : Nm) :
    Calls Tryz.prog 132 #[.pointer (some ⟨b, 0, none⟩), .string (bs p), .string (bs q)] w (ErrPost w b S ((s.rename p q).run s)) := by
 have hmf : ∀ (fn : Fn) (first cap : Array Value) (w : World), (Instr.makeFunc fn first cap).run Tryz.prog w = .ok (.func fn first cap) w := fun _ _ _ _ => rfl
 obtain ⟨W1, hW1⟩ : ∃ W1, W1 = ((w.alloc (.cells #[.pointer (some ⟨b, 0, none⟩)] 52)).alloc (.cells #[.string (bs p)] 9)).alloc (.cells #[.string (bs q)] 9) := ⟨_, rfl⟩
 have hB1 : Below w.heap.size w W1 := by rw [hW1]; exact belC (Below.refl _ _)
 have hz1 : W1.heap.size = w.heap.size + 3 := by rw [hW1]; simp
 have hns : ∀ k, w.heap.size ≤ k → ¬ S k := fun k hk hs => by have := h.lt k hs; omega
 have hs1 : ¬ S W1.heap.size := hns _ (by omega)
 have hBe : Below w.heap.size w (W1.alloc (.cells #[.int .i64 0] 37)) := by exact belC hB1
 have hdo := rename1_any (W1.alloc (.cells #[.int .i64 0] 37)) b w.heap.size (w.heap.size + 1) (w.heap.size + 2) S s (h.below' hBe) hok p q (by rw [hW1]; go_simp) (by rw [hW1]; go_simp) (by rw [hW1]; go_simp) (hns _ (by omega)) (hns _ (by omega)) (hns _ (by omega))
 have HM1 := Lib.hid (Mod.of_below (F := S) hB1)
 have HW1 := Lib.hid hW1
 obtain ⟨r, hr⟩ : ∃ r, r = (s.rename p q).run s := ⟨_, rfl⟩
 rw [← hr] at hdo ⊢
 clear hr hB1 hW1 hBe h hz1 hns hok
 go_enter Tryz.func132, Tryz.ntmps132
 go_wp2_with fail
 rw [← HW1.out]
 refine (tries_tree W1 b 182 _ S r hs1 (enters_of Tryz.func182 (by kernel_rfl) rfl) hdo).mono ?_
 clear hdo
 rintro e W2 ⟨rfl, hT2, hM2⟩
 go_wp2_with fail
 go_ret
 exact ⟨rfl, hT2, HM1.out.trans hM2⟩
end Go.Proofs.YtajbooppoohplaaGreatDoor
/- package tree: Link -/
namespace Go.Proofs.YtajbooppoohplaaGreatDoor
open Go.RowKit Esch Go.Shelf

theorem link1_any (W : World) (b tb pb qb : Nat) (S : Nat → Prop) (s : TrS) (h : TreeAt W b S s) (hok : s.ok) (p q : Nm)
    (t0 : W.cell? ⟨tb, 0, none⟩ = some (.pointer (some ⟨b, 0, none⟩))) (p0 : W.cell? ⟨pb, 0, none⟩ = some (.string (bs p))) (q0 : W.cell? ⟨qb, 0, none⟩ = some (.string (bs q))) :
    Calls Tryz.prog 178 #[.pointer (some ⟨tb, 0, none⟩), .pointer (some ⟨pb, 0, none⟩), .pointer (some ⟨qb, 0, none⟩)] W (DoPost (ChgR W b S ((s.lnk p q).run s))) := by
 have hrs := trResolve_any W b S s h p
 have hpl := fun W' hW => trPlace_any W' b S s hW q 61
 have hno := stop_no
 have hys := stop_yes
 have HT := Lib.hid h
 obtain ⟨r, hr⟩ : ∃ r, r = (s.lnk p q).run s := ⟨_, rfl⟩
 rw [← hr]
 have HR := Lib.hid hr
 clear h hr
 cases hp : s.resolve p with
 | err e =>
   rw [hp] at hrs
   have HE := Lib.hid (show r = (e, s) by rw [HR.out]; unfold TrS.lnk; rw [hp]; rfl)
   clear hp hpl
   go_enter Tryz.func178, Tryz.ntmps178
   have HM := Lib.hid (Mod.refl S W)
   go_wp2_with fail
   refine hrs.mono ?_
   clear hrs
   rintro e W2 ⟨hB5, rfl⟩
   go_wp2_with fail
   exact ⟨rfl, Or.inr ⟨_, rfl, by rw [HE.out], by rw [HE.out]; exact HT.out.below' hB5, HM.out.trans (Mod.of_below (F := S) hB5)⟩⟩
 | ok i =>
 rw [hp] at hrs
 have HP := Lib.hid hp
 clear hp
 have hkd2 := fun W hW => trKind_any W b S s hW i
 by_cases hk : s.kind i = 1
 · have HE := Lib.hid (show r = (63, s) by rw [HR.out]; unfold TrS.lnk; rw [HP.out]; simp [Res.bind, stopB, hk, Res.run])
   rw [hk] at hkd2
   clear hk hpl
   go_enter Tryz.func178, Tryz.ntmps178
   have HM := Lib.hid (Mod.refl S W)
   go_wp2_with fail
   refine hrs.mono ?_
   clear hrs
   rintro e W2 ⟨hB5, rfl⟩
   have t1 := below_at hB5 t0 (cell_lt t0)
   have p1 := below_at hB5 p0 (cell_lt p0)
   have q1 := below_at hB5 q0 (cell_lt q0)
   have HT := Lib.hid (HT.out.below' hB5)
   have HM := Lib.hid (HM.out.trans (Mod.of_below (F := S) hB5))
   clear t0 p0 q0 hB5
   have t0 := t1
   have p0 := p1
   have q0 := q1
   clear t1 p1 q1
   go_wp2_with fail
   refine (hkd2 _ HT.out).mono ?_
   rintro e W3 ⟨rfl, hB5⟩
   exact mK107
 have hk2 : (s.kind i == 1) = false := by simpa using hk
 have Hk := Lib.hid hk
 clear hk
 have hst2 := fun W ib S1 hW => inoStat_any W ib S1 s.t hW i
 generalize s.kind i = kk at hkd2 hk2
 obtain ⟨⟨y0, y1, y2, y3, y4⟩, hy⟩ : ∃ y, y = s.t.at i := ⟨_, rfl⟩
 rw [← hy] at hst2
 simp only [statV] at hst2
 have HY := Lib.hid hy
 generalize s.t.has i = yb at hst2
 clear hy
 cases hq : s.place q 61 with
 | err e =>
   rw [hq] at hpl
   have HE := Lib.hid (show r = (e, s) by rw [HR.out]; unfold TrS.lnk; rw [HP.out, hq]; simp [Res.bind, stopB, Hk.out, Res.run])
   clear hq hst2
   go_enter Tryz.func178, Tryz.ntmps178
   have HM := Lib.hid (Mod.refl S W)
   go_wp2_with fail
   refine hrs.mono ?_
   clear hrs
   rintro e W2 ⟨hB5, rfl⟩
   have t1 := below_at hB5 t0 (cell_lt t0)
   have p1 := below_at hB5 p0 (cell_lt p0)
   have q1 := below_at hB5 q0 (cell_lt q0)
   have HT := Lib.hid (HT.out.below' hB5)
   have HM := Lib.hid (HM.out.trans (Mod.of_below (F := S) hB5))
   clear t0 p0 q0 hB5
   have t0 := t1
   have p0 := p1
   have q0 := q1
   clear t1 p1 q1
   go_wp2_with fail
   refine (hkd2 _ HT.out).mono ?_
   rintro e W3 ⟨rfl, hB5⟩
   have t1 := below_at hB5 t0 (cell_lt t0)
   have p1 := below_at hB5 p0 (cell_lt p0)
   have q1 := below_at hB5 q0 (cell_lt q0)
   have HT := Lib.hid (HT.out.below' hB5)
   have HM := Lib.hid (HM.out.trans (Mod.of_below (F := S) hB5))
   clear t0 p0 q0 hB5
   have t0 := t1
   have p0 := p1
   have q0 := q1
   clear t1 p1 q1
   go_wp2_with fail
   refine (hno _ _).mono ?_
   rintro e w9 ⟨rfl, rfl⟩
   go_wp2_with fail
   refine (hpl _ HT.out).mono ?_
   clear hpl
   rintro e W5 ⟨hB5, rfl⟩
   go_wp2_with fail
   exact ⟨rfl, Or.inr ⟨_, rfl, by rw [HE.out], by rw [HE.out]; exact HT.out.below' hB5, HM.out.trans (Mod.of_below (F := S) hB5)⟩⟩
 | ok x =>
 rw [hq] at hpl
 obtain ⟨xd, xn, xi⟩ := x
 have HQ := Lib.hid hq
 clear hq
 by_cases hx : xi = 0
 rotate_left 1
 · have HE := Lib.hid (show r = (61, s) by rw [HR.out]; unfold TrS.lnk; rw [HP.out, HQ.out]; simp [Res.bind, stopB, Hk.out, hx, Res.run])
   have hx2 : (xi != 0) = true := by simpa using hx
   clear hx hst2
   go_enter Tryz.func178, Tryz.ntmps178
   have HM := Lib.hid (Mod.refl S W)
   go_wp2_with fail
   refine hrs.mono ?_
   clear hrs
   rintro e W2 ⟨hB5, rfl⟩
   have t1 := below_at hB5 t0 (cell_lt t0)
   have p1 := below_at hB5 p0 (cell_lt p0)
   have q1 := below_at hB5 q0 (cell_lt q0)
   have HT := Lib.hid (HT.out.below' hB5)
   have HM := Lib.hid (HM.out.trans (Mod.of_below (F := S) hB5))
   clear t0 p0 q0 hB5
   have t0 := t1
   have p0 := p1
   have q0 := q1
   clear t1 p1 q1
   go_wp2_with fail
   refine (hkd2 _ HT.out).mono ?_
   rintro e W3 ⟨rfl, hB5⟩
   have t1 := below_at hB5 t0 (cell_lt t0)
   have p1 := below_at hB5 p0 (cell_lt p0)
   have q1 := below_at hB5 q0 (cell_lt q0)
   have HT := Lib.hid (HT.out.below' hB5)
   have HM := Lib.hid (HM.out.trans (Mod.of_below (F := S) hB5))
   clear t0 p0 q0 hB5
   have t0 := t1
   have p0 := p1
   have q0 := q1
   clear t1 p1 q1
   go_wp2_with fail
   refine (hno _ _).mono ?_
   rintro e w9 ⟨rfl, rfl⟩
   go_wp2_with fail
   refine (hpl _ HT.out).mono ?_
   clear hpl
   rintro e W5 ⟨hB5, rfl⟩
   simp only [spotV]
   obtain ⟨W6, hW6⟩ : ∃ W6, W6 = W5.alloc (.cells #[.int .i64 xd, .string (bs xn), .int .i64 xi] 257) := ⟨_, rfl⟩
   have hB6 : Below W5.heap.size W5 W6 := by rw [hW6]; exact belC (Below.refl _ _)
   have hB56 := hB5.trans (hB6.mono hB5.size)
   have x0 : W6.cell? ⟨W5.heap.size, 0, none⟩ = some (.int .i64 xd) := by rw [hW6]; go_simp
   have x1 : W6.cell? ⟨W5.heap.size, 1, none⟩ = some (.string (bs xn)) := by rw [hW6]; go_simp
   have x2 : W6.cell? ⟨W5.heap.size, 2, none⟩ = some (.int .i64 xi) := by rw [hW6]; go_simp
   have HW6 := Lib.hid hW6
   have t1 := below_at hB56 t0 (cell_lt t0)
   have p1 := below_at hB56 p0 (cell_lt p0)
   have q1 := below_at hB56 q0 (cell_lt q0)
   have HT6 := Lib.hid (HT.out.below' hB56)
   have HM6 := Lib.hid (HM.out.trans (Mod.of_below (F := S) hB56))
   clear hW6 hB6 hB56
   go_wp2_with fail
   rw [← HW6.out]
   obtain ⟨xb, hxb⟩ : ∃ xb, xb = W5.heap.size := ⟨_, rfl⟩
   rw [← hxb] at x0 x1 x2 ⊢
   clear hxb HW6 t0 p0 q0 HT HM hB5
   have t0 := t1
   have p0 := p1
   have q0 := q1
   have HT := Lib.hid HT6.out
   have HM := Lib.hid HM6.out
   clear t1 p1 q1 HT6 HM6
   exact mK100
 have hx2 : (xi != 0) = false := by simpa using hx
 have Hx := Lib.hid hx
 clear hx
 have HL := Lib.hid (show (s.t.at i).links = y2 by rw [← HY.out])
 by_cases hl : 8 ≤ y2
 · have HE := Lib.hid (show r = (66, s) by rw [HR.out]; unfold TrS.lnk; rw [HP.out, HQ.out]; simp [Res.bind, stopB, Hk.out, Hx.out, HL.out, hl, Res.run])
   have hl2 : decide (y2 ≥ 8) = true := decide_eq_true hl
   go_enter Tryz.func178, Tryz.ntmps178
   have HM := Lib.hid (Mod.refl S W)
   go_wp2_with fail
   refine hrs.mono ?_
   clear hrs
   rintro e W2 ⟨hB5, rfl⟩
   have t1 := below_at hB5 t0 (cell_lt t0)
   have p1 := below_at hB5 p0 (cell_lt p0)
   have q1 := below_at hB5 q0 (cell_lt q0)
   have HT := Lib.hid (HT.out.below' hB5)
   have HM := Lib.hid (HM.out.trans (Mod.of_below (F := S) hB5))
   clear t0 p0 q0 hB5
   have t0 := t1
   have p0 := p1
   have q0 := q1
   clear t1 p1 q1
   go_wp2_with fail
   refine (hkd2 _ HT.out).mono ?_
   rintro e W3 ⟨rfl, hB5⟩
   have t1 := below_at hB5 t0 (cell_lt t0)
   have p1 := below_at hB5 p0 (cell_lt p0)
   have q1 := below_at hB5 q0 (cell_lt q0)
   have HT := Lib.hid (HT.out.below' hB5)
   have HM := Lib.hid (HM.out.trans (Mod.of_below (F := S) hB5))
   clear t0 p0 q0 hB5
   have t0 := t1
   have p0 := p1
   have q0 := q1
   clear t1 p1 q1
   go_wp2_with fail
   refine (hno _ _).mono ?_
   rintro e w9 ⟨rfl, rfl⟩
   go_wp2_with fail
   refine (hpl _ HT.out).mono ?_
   clear hpl
   rintro e W5 ⟨hB5, rfl⟩
   simp only [spotV]
   obtain ⟨W6, hW6⟩ : ∃ W6, W6 = W5.alloc (.cells #[.int .i64 xd, .string (bs xn), .int .i64 xi] 257) := ⟨_, rfl⟩
   have hB6 : Below W5.heap.size W5 W6 := by rw [hW6]; exact belC (Below.refl _ _)
   have hB56 := hB5.trans (hB6.mono hB5.size)
   have x0 : W6.cell? ⟨W5.heap.size, 0, none⟩ = some (.int .i64 xd) := by rw [hW6]; go_simp
   have x1 : W6.cell? ⟨W5.heap.size, 1, none⟩ = some (.string (bs xn)) := by rw [hW6]; go_simp
   have x2 : W6.cell? ⟨W5.heap.size, 2, none⟩ = some (.int .i64 xi) := by rw [hW6]; go_simp
   have HW6 := Lib.hid hW6
   have t1 := below_at hB56 t0 (cell_lt t0)
   have p1 := below_at hB56 p0 (cell_lt p0)
   have q1 := below_at hB56 q0 (cell_lt q0)
   have HT6 := Lib.hid (HT.out.below' hB56)
   have HM6 := Lib.hid (HM.out.trans (Mod.of_below (F := S) hB56))
   clear hW6 hB6 hB56
   go_wp2_with fail
   rw [← HW6.out]
   obtain ⟨xb, hxb⟩ : ∃ xb, xb = W5.heap.size := ⟨_, rfl⟩
   rw [← hxb] at x0 x1 x2 ⊢
   clear hxb HW6 t0 p0 q0 HT HM hB5
   have t0 := t1
   have p0 := p1
   have q0 := q1
   have HT := Lib.hid HT6.out
   have HM := Lib.hid HM6.out
   clear t1 p1 q1 HT6 HM6
   obtain ⟨sb, lt, ib, nb, S1, S2, c0, c1, ht, hn, s1, s2, dd, b1, b2⟩ := HT.out
   have hst3 := hst2 _ ib S1 ht
   clear ht hn s1 s2 dd lt sb c1 b2 b1 hst2
   refine (hno _ _).mono ?_
   rintro e w9 ⟨rfl, rfl⟩
   go_wp2_with fail
   refine hst3.mono ?_
   clear hst3
   rintro e W8 ⟨rfl, hB8⟩
   obtain ⟨W9, hW9⟩ : ∃ W9, W9 = W8.alloc (.cells #[.int .i64 y0, .int .i64 y1, .int .i64 y2, .int .i64 y4] 110) := ⟨_, rfl⟩
   have hB9 : Below W8.heap.size W8 W9 := by rw [hW9]; exact belC (Below.refl _ _)
   have z2 : W9.cell? ⟨W8.heap.size, 2, none⟩ = some (.int .i64 y2) := by rw [hW9]; go_simp
   have hB5 := hB8.trans (hB9.mono hB8.size)
   have HW9 := Lib.hid hW9
   clear hB8 hB9 hW9 c0
   go_wp2_with fail
   rw [← HW9.out]
   obtain ⟨zb, hzb⟩ : ∃ zb, zb = W8.heap.size := ⟨_, rfl⟩
   rw [← hzb] at z2 ⊢
   clear hzb HW9
   have x0a := below_at hB5 x0 (cell_lt x0)
   have x1a := below_at hB5 x1 (cell_lt x1)
   have x2a := below_at hB5 x2 (cell_lt x2)
   clear x0 x1 x2
   have x0 := x0a
   have x1 := x1a
   have x2 := x2a
   clear x0a x1a x2a
   exact mK107
 have hl2 : decide (y2 ≥ 8) = false := decide_eq_false hl
 have Hl := Lib.hid hl
 have hfl := fun W' hW => trFull_any W' b S s hW xd
 by_cases hf : 64 ≤ s.n.count xd
 · have HE := Lib.hid (show r = (67, s) by rw [HR.out]; unfold TrS.lnk; rw [HP.out, HQ.out]; simp [Res.bind, stopB, Hk.out, Hx.out, HL.out, Hl.out, hf, Res.run])
   rw [decide_eq_true hf] at hfl
   clear hf hl
   go_enter Tryz.func178, Tryz.ntmps178
   have HM := Lib.hid (Mod.refl S W)
   go_wp2_with fail
   refine hrs.mono ?_
   clear hrs
   rintro e W2 ⟨hB5, rfl⟩
   have t1 := below_at hB5 t0 (cell_lt t0)
   have p1 := below_at hB5 p0 (cell_lt p0)
   have q1 := below_at hB5 q0 (cell_lt q0)
   have HT := Lib.hid (HT.out.below' hB5)
   have HM := Lib.hid (HM.out.trans (Mod.of_below (F := S) hB5))
   clear t0 p0 q0 hB5
   have t0 := t1
   have p0 := p1
   have q0 := q1
   clear t1 p1 q1
   go_wp2_with fail
   refine (hkd2 _ HT.out).mono ?_
   rintro e W3 ⟨rfl, hB5⟩
   have t1 := below_at hB5 t0 (cell_lt t0)
   have p1 := below_at hB5 p0 (cell_lt p0)
   have q1 := below_at hB5 q0 (cell_lt q0)
   have HT := Lib.hid (HT.out.below' hB5)
   have HM := Lib.hid (HM.out.trans (Mod.of_below (F := S) hB5))
   clear t0 p0 q0 hB5
   have t0 := t1
   have p0 := p1
   have q0 := q1
   clear t1 p1 q1
   go_wp2_with fail
   refine (hno _ _).mono ?_
   rintro e w9 ⟨rfl, rfl⟩
   go_wp2_with fail
   refine (hpl _ HT.out).mono ?_
   clear hpl
   rintro e W5 ⟨hB5, rfl⟩
   simp only [spotV]
   obtain ⟨W6, hW6⟩ : ∃ W6, W6 = W5.alloc (.cells #[.int .i64 xd, .string (bs xn), .int .i64 xi] 257) := ⟨_, rfl⟩
   have hB6 : Below W5.heap.size W5 W6 := by rw [hW6]; exact belC (Below.refl _ _)
   have hB56 := hB5.trans (hB6.mono hB5.size)
   have x0 : W6.cell? ⟨W5.heap.size, 0, none⟩ = some (.int .i64 xd) := by rw [hW6]; go_simp
   have x1 : W6.cell? ⟨W5.heap.size, 1, none⟩ = some (.string (bs xn)) := by rw [hW6]; go_simp
   have x2 : W6.cell? ⟨W5.heap.size, 2, none⟩ = some (.int .i64 xi) := by rw [hW6]; go_simp
   have HW6 := Lib.hid hW6
   have t1 := below_at hB56 t0 (cell_lt t0)
   have p1 := below_at hB56 p0 (cell_lt p0)
   have q1 := below_at hB56 q0 (cell_lt q0)
   have HT6 := Lib.hid (HT.out.below' hB56)
   have HM6 := Lib.hid (HM.out.trans (Mod.of_below (F := S) hB56))
   clear hW6 hB6 hB56
   go_wp2_with fail
   rw [← HW6.out]
   obtain ⟨xb, hxb⟩ : ∃ xb, xb = W5.heap.size := ⟨_, rfl⟩
   rw [← hxb] at x0 x1 x2 ⊢
   clear hxb HW6 t0 p0 q0 HT HM hB5
   have t0 := t1
   have p0 := p1
   have q0 := q1
   have HT := Lib.hid HT6.out
   have HM := Lib.hid HM6.out
   clear t1 p1 q1 HT6 HM6
   obtain ⟨sb, lt, ib, nb, S1, S2, c0, c1, ht, hn, s1, s2, dd, b1, b2⟩ := HT.out
   have hst3 := hst2 _ ib S1 ht
   clear ht hn s1 s2 dd lt sb c1 b2 b1 hst2
   refine (hno _ _).mono ?_
   rintro e w9 ⟨rfl, rfl⟩
   go_wp2_with fail
   refine hst3.mono ?_
   clear hst3
   rintro e W8 ⟨rfl, hB8⟩
   obtain ⟨W9, hW9⟩ : ∃ W9, W9 = W8.alloc (.cells #[.int .i64 y0, .int .i64 y1, .int .i64 y2, .int .i64 y4] 110) := ⟨_, rfl⟩
   have hB9 : Below W8.heap.size W8 W9 := by rw [hW9]; exact belC (Below.refl _ _)
   have z2 : W9.cell? ⟨W8.heap.size, 2, none⟩ = some (.int .i64 y2) := by rw [hW9]; go_simp
   have hB5 := hB8.trans (hB9.mono hB8.size)
   have HW9 := Lib.hid hW9
   clear hB8 hB9 hW9 c0
   go_wp2_with fail
   rw [← HW9.out]
   obtain ⟨zb, hzb⟩ : ∃ zb, zb = W8.heap.size := ⟨_, rfl⟩
   rw [← hzb] at z2 ⊢
   clear hzb HW9
   have x0a := below_at hB5 x0 (cell_lt x0)
   have x1a := below_at hB5 x1 (cell_lt x1)
   have x2a := below_at hB5 x2 (cell_lt x2)
   clear x0 x1 x2
   have x0 := x0a
   have x1 := x1a
   have x2 := x2a
   clear x0a x1a x2a
   have t1 := below_at hB5 t0 (cell_lt t0)
   have p1 := below_at hB5 p0 (cell_lt p0)
   have q1 := below_at hB5 q0 (cell_lt q0)
   have HT := Lib.hid (HT.out.below' hB5)
   have HM := Lib.hid (HM.out.trans (Mod.of_below (F := S) hB5))
   clear t0 p0 q0 hB5
   have t0 := t1
   have p0 := p1
   have q0 := q1
   clear t1 p1 q1
   go_wp2_with fail
   refine (hno _ _).mono ?_
   rintro e w9 ⟨rfl, rfl⟩
   go_wp2_with fail
   refine (hfl _ HT.out).mono ?_
   clear hfl
   rintro e w8 ⟨rfl, rfl⟩
   go_wp2_with fail
   exact mK100
 have HE := Lib.hid (show r = (0, s.add ⟨xd, xn, xi⟩ i) by rw [HR.out]; unfold TrS.lnk; rw [HP.out, HQ.out]; simp [Res.bind, stopB, Hk.out, Hx.out, HL.out, Hl.out, hf, Res.run])
 rw [decide_eq_false hf] at hfl
 clear hf hl
 go_enter Tryz.func178, Tryz.ntmps178
 have HM := Lib.hid (Mod.refl S W)
 go_wp2_with fail
 refine hrs.mono ?_
 clear hrs
 rintro e W2 ⟨hB5, rfl⟩
 have t1 := below_at hB5 t0 (cell_lt t0)
 have p1 := below_at hB5 p0 (cell_lt p0)
 have q1 := below_at hB5 q0 (cell_lt q0)
 have HT := Lib.hid (HT.out.below' hB5)
 have HM := Lib.hid (HM.out.trans (Mod.of_below (F := S) hB5))
 clear t0 p0 q0 hB5
 have t0 := t1
 have p0 := p1
 have q0 := q1
 clear t1 p1 q1
 go_wp2_with fail
 refine (hkd2 _ HT.out).mono ?_
 rintro e W3 ⟨rfl, hB5⟩
 have t1 := below_at hB5 t0 (cell_lt t0)
 have p1 := below_at hB5 p0 (cell_lt p0)
 have q1 := below_at hB5 q0 (cell_lt q0)
 have HT := Lib.hid (HT.out.below' hB5)
 have HM := Lib.hid (HM.out.trans (Mod.of_below (F := S) hB5))
 clear t0 p0 q0 hB5
 have t0 := t1
 have p0 := p1
 have q0 := q1
 clear t1 p1 q1
 go_wp2_with fail
 refine (hno _ _).mono ?_
 rintro e w9 ⟨rfl, rfl⟩
 go_wp2_with fail
 refine (hpl _ HT.out).mono ?_
 clear hpl
 rintro e W5 ⟨hB5, rfl⟩
 simp only [spotV]
 obtain ⟨W6, hW6⟩ : ∃ W6, W6 = W5.alloc (.cells #[.int .i64 xd, .string (bs xn), .int .i64 xi] 257) := ⟨_, rfl⟩
 have hB6 : Below W5.heap.size W5 W6 := by rw [hW6]; exact belC (Below.refl _ _)
 have hB56 := hB5.trans (hB6.mono hB5.size)
 have x0 : W6.cell? ⟨W5.heap.size, 0, none⟩ = some (.int .i64 xd) := by rw [hW6]; go_simp
 have x1 : W6.cell? ⟨W5.heap.size, 1, none⟩ = some (.string (bs xn)) := by rw [hW6]; go_simp
 have x2 : W6.cell? ⟨W5.heap.size, 2, none⟩ = some (.int .i64 xi) := by rw [hW6]; go_simp
 have HW6 := Lib.hid hW6
 have t1 := below_at hB56 t0 (cell_lt t0)
 have p1 := below_at hB56 p0 (cell_lt p0)
 have q1 := below_at hB56 q0 (cell_lt q0)
 have HT6 := Lib.hid (HT.out.below' hB56)
 have HM6 := Lib.hid (HM.out.trans (Mod.of_below (F := S) hB56))
 clear hW6 hB6 hB56
 go_wp2_with fail
 rw [← HW6.out]
 obtain ⟨xb, hxb⟩ : ∃ xb, xb = W5.heap.size := ⟨_, rfl⟩
 rw [← hxb] at x0 x1 x2 ⊢
 clear hxb HW6 t0 p0 q0 HT HM hB5
 have t0 := t1
 have p0 := p1
 have q0 := q1
 have HT := Lib.hid HT6.out
 have HM := Lib.hid HM6.out
 clear t1 p1 q1 HT6 HM6
 obtain ⟨sb, lt, ib, nb, S1, S2, c0, c1, ht, hn, s1, s2, dd, b1, b2⟩ := HT.out
 have hst3 := hst2 _ ib S1 ht
 clear ht hn s1 s2 dd lt sb c1 b2 b1 hst2
 refine (hno _ _).mono ?_
 rintro e w9 ⟨rfl, rfl⟩
 go_wp2_with fail
 refine hst3.mono ?_
 clear hst3
 rintro e W8 ⟨rfl, hB8⟩
 obtain ⟨W9, hW9⟩ : ∃ W9, W9 = W8.alloc (.cells #[.int .i64 y0, .int .i64 y1, .int .i64 y2, .int .i64 y4] 110) := ⟨_, rfl⟩
 have hB9 : Below W8.heap.size W8 W9 := by rw [hW9]; exact belC (Below.refl _ _)
 have z2 : W9.cell? ⟨W8.heap.size, 2, none⟩ = some (.int .i64 y2) := by rw [hW9]; go_simp
 have hB5 := hB8.trans (hB9.mono hB8.size)
 have HW9 := Lib.hid hW9
 clear hB8 hB9 hW9 c0
 go_wp2_with fail
 rw [← HW9.out]
 obtain ⟨zb, hzb⟩ : ∃ zb, zb = W8.heap.size := ⟨_, rfl⟩
 rw [← hzb] at z2 ⊢
 clear hzb HW9
 have x0a := below_at hB5 x0 (cell_lt x0)
 have x1a := below_at hB5 x1 (cell_lt x1)
 have x2a := below_at hB5 x2 (cell_lt x2)
 clear x0 x1 x2
 have x0 := x0a
 have x1 := x1a
 have x2 := x2a
 clear x0a x1a x2a
 have t1 := below_at hB5 t0 (cell_lt t0)
 have p1 := below_at hB5 p0 (cell_lt p0)
 have q1 := below_at hB5 q0 (cell_lt q0)
 have HT := Lib.hid (HT.out.below' hB5)
 have HM := Lib.hid (HM.out.trans (Mod.of_below (F := S) hB5))
 clear t0 p0 q0 hB5
 have t0 := t1
 have p0 := p1
 have q0 := q1
 clear t1 p1 q1
 go_wp2_with fail
 refine (hno _ _).mono ?_
 rintro e w9 ⟨rfl, rfl⟩
 go_wp2_with fail
 refine (hfl _ HT.out).mono ?_
 clear hfl
 rintro e w8 ⟨rfl, rfl⟩
 go_wp2_with fail
 refine (hno _ _).mono ?_
 rintro e w9 ⟨rfl, rfl⟩
 go_wp2_with fail
 have had := trAdd_any _ b S s HT.out hok ⟨xd, xn, xi⟩ i
 simp only [spotV] at had
 refine had.mono ?_
 clear had
 rintro e w12 ⟨rfl, hT12, hM12⟩
 go_wp2_with fail
 go_end0
 exact Or.inl ⟨rfl, by rw [HE.out], by rw [HE.out]; exact hT12, HM.out.trans hM12⟩
end Go.Proofs.YtajbooppoohplaaGreatDoor
/- package inode: Truncate, Open -/
namespace Esch
open Go Go.RowKit
theorem growI_lt {S : Nat → Prop} {w w' W : World} (h : ∀ k, S k → k < w.heap.size) (h1 : w.heap.size ≤ W.heap.size) (h2 : w'.heap.size ≤ W.heap.size) : ∀ k, growI S w w' k → k < W.heap.size := fun k hk => by
  rcases hk with hk | hk
  · have := h k hk; omega
  · omega
/-- the table behind a change of its set, once more blocks have come -/
theorem grow_done {w W3 W w' : World} {b : Nat} {S : Nat → Prop} {s' : TabS} (hl : ∀ k, S k → k < w.heap.size) (hB : Below w.heap.size w W) (h3 : W3.heap.size ≤ W.heap.size) (hT : TabAt w' b (growI S w W3) s') (hM : Mod (growI S w W3) W w') :
    TabAt w' b (growI S w w') s' ∧ Mod S w w' := by
 have hz := hM.size
 have hzB := hB.size
 exact ⟨hT.wide (fun k hk => hk.imp id (fun h => ⟨h.1, by omega⟩)) (growI_lt hl (by omega) (Nat.le_refl _)), (Mod.of_below hB).trans' hM fun k hk h => h.elim id (fun h => by omega)⟩
/-- a table that is reached by a world in which more has come, and a box is written -/
theorem grow_in {w W2 W : World} {b bx : Nat} {S T : Nat → Prop} {s : TabS} (h : TabAt w b S s) (hB : Below w.heap.size w W2) (hM : Mod (· = bx) W2 W) (hbx : w.heap.size ≤ bx) (hT : ∀ k, S k → T k) (hl : ∀ k, T k → k < W.heap.size) : TabAt W b T s :=
  ((h.below' hB).mod hM (fun k hk e => by have := h.lt k hk; omega)).wide hT hl
theorem notMut_new {w W : World} {b : Nat} {S : Nat → Prop} {s : TabS} (h : TabAt w b S s) (hc : W.cell? ⟨b, 0, none⟩ = w.cell? ⟨b, 0, none⟩) {k : Nat} (hk : w.heap.size ≤ k) : NotMut W b k := by
 obtain ⟨sb, lt, mb, m, c0, -, -, -, sm, -⟩ := h
 refine ⟨fun e => by have := lt b sb; omega, fun e => ?_⟩
 rw [hc, c0] at e
 have e2 : mb = k := by injection e with e; injection e with e; injection e
 have := lt mb sm
 omega
end Esch
namespace Go.Proofs.YtajbooppoohplaaGreatDoor
open Go.RowKit Esch Go.Shelf

def TabPostG (w : World) (b : Nat) (S : Nat → Prop) (r : Int × TabS) (e : Ending) (w' : World) : Prop := e = .returned (.int .i64 r.1) ∧ TabAt w' b (growI S w w') r.2 ∧ Mod S w w'
theorem TabPostG.keep {w w' : World} {b : Nat} {S : Nat → Prop} {s : TabS} (h : TabAt w b S s) (hB : Below w.heap.size w w') (v : Int) : TabPostG w b S (v, s) (.returned (.int .i64 v)) w' := ⟨rfl, (h.below' hB).wide (fun _ hk => Or.inl hk) (growI_lt h.lt hB.size (Nat.le_refl _)), Mod.of_below hB⟩
theorem inoTruncate_any (w : World) (b : Nat) (S : Nat → Prop) (s : TabS) (h : TabAt w b S s) (i n : Int) (hok : (s.at i).ok) :
    Calls Tryz.prog 186 #[.pointer (some ⟨b, 0, none⟩), .int .i64 i, .int .i64 n] w (TabPostG w b S (s.cut i n)) := by
 have hf := inoFile_any w b S s h i
 obtain ⟨l0, l1, o0, o1⟩ := hok
 obtain ⟨r, hr⟩ : ∃ r, r = s.cut i n := ⟨_, rfl⟩
 rw [← hr]
 unfold TabS.cut at hr
 unfold fileOf at hf
 obtain ⟨⟨x0, x1, x2, x3, x4, ps⟩, hx⟩ : ∃ x, x = s.at i := ⟨_, rfl⟩
 rw [← hx] at hf hr l0 l1 o0 o1
 simp only at l0 l1 o0 o1
 cases hh : s.has i
 · rw [hh] at hf hr
   rw [if_pos rfl] at hr hf
   subst hr
   unfold FilePost at hf
   simp only at hf
   clear hx hh l0 l1 o0 o1
   go_enter Tryz.func186, Tryz.ntmps186
   exact mK108
 rw [hh] at hf hr
 rw [if_neg (by simp)] at hr hf
 by_cases hk : x1 = 1
 · rw [if_pos hk] at hr hf
   subst hr
   unfold FilePost at hf
   simp only at hf
   exact mK109
 rw [if_neg hk] at hr hf
 unfold FilePost at hf
 simp only at hf
 by_cases hlo : n < 0
 · rw [if_pos (Or.inl hlo)] at hr
   subst hr
   exact mK109
 by_cases hhi : 8192 < n
 · rw [if_pos (Or.inr hhi)] at hr
   subst hr
   exact mK109
 rw [if_neg (fun h => h.elim hlo hhi)] at hr
 subst hr
 have hn : -1000000000 ≤ n ∧ n ≤ 1000000000 := by omega
 have K3 : x3 ≤ 1000 := by omega
 have K1 : x2 ≤ 1000 := by omega
 clear hx hh hk
 go_enter Tryz.func186, Tryz.ntmps186
 go_wp2_with fail
 refine hf.mono ?_
 clear hf
 rintro e W2 ⟨⟨y0, y1, y2, y3, y4, pa, pc, lp⟩, hcv, rfl, hP2, hB2⟩
 simp only [InC.val] at hcv
 cases hcv
 simp only [inCV]
 obtain ⟨V2, hV2, hBV⟩ : ∃ V2, V2 = W2.alloc (.cells #[.int .i64 x0, .int .i64 x1, .int .i64 x2, .int .i64 x3, .int .i64 x4, .slice pa ps.length pc] 85) ∧ Below W2.heap.size W2 V2 := ⟨_, rfl, by exact belC (Below.refl _ _)⟩
 have hB2V := hB2.trans (hBV.mono hB2.size)
 have hct := extCut_any V2 _ pa pc ps (hP2.row.below' hBV) n hn
 have HB2V := Lib.hid hB2V
 obtain ⟨bx, hbx⟩ : ∃ bx, bx = W2.heap.size := ⟨_, rfl⟩
 have v0 : V2.cell? ⟨bx, 0, none⟩ = some (.int .i64 x0) := by rw [hV2, hbx]; go_simp
 have v1 : V2.cell? ⟨bx, 1, none⟩ = some (.int .i64 x1) := by rw [hV2, hbx]; go_simp
 have v2 : V2.cell? ⟨bx, 2, none⟩ = some (.int .i64 x2) := by rw [hV2, hbx]; go_simp
 have v3 : V2.cell? ⟨bx, 3, none⟩ = some (.int .i64 x3) := by rw [hV2, hbx]; go_simp
 have v4 : V2.cell? ⟨bx, 4, none⟩ = some (.int .i64 x4) := by rw [hV2, hbx]; go_simp
 have v5 : V2.cell? ⟨bx, 5, none⟩ = some (.slice pa ps.length pc) := by rw [hV2, hbx]; go_simp
 have u4 : V2.frozen? ⟨bx, 4, none⟩ = false := by rw [hV2, hbx]; go_simp
 have u5 : V2.frozen? ⟨bx, 5, none⟩ = false := by rw [hV2, hbx]; go_simp
 have hbl := cell_lt v0
 have HV2 := Lib.hid hV2
 have HBX := Lib.hid hbx
 have HBW := Lib.hid (show w.heap.size ≤ bx by rw [hbx]; exact hB2.size)
 clear hP2 hB2 hBV hB2V hV2 hbx
 go_wp2_with fail
 rw [← HV2.out, ← HBX.out]
 refine hct.mono ?_
 clear hct
 rintro e W3 ⟨a3, c3, rfl, hg3, hB3⟩
 have v0 := below_at hB3 v0 hbl
 have v1 := below_at hB3 v1 hbl
 have v2 := below_at hB3 v2 hbl
 have v3 := below_at hB3 v3 hbl
 have v4 := below_at hB3 v4 hbl
 have v5 := below_at hB3 v5 hbl
 have u4 := (hB3.frozen (p := ⟨bx, 4, none⟩) hbl).trans u4
 have u5 := (hB3.frozen (p := ⟨bx, 5, none⟩) hbl).trans u5
 have hbl3 := cell_lt v0
 have hB03 := HB2V.out.trans (hB3.mono HB2V.out.size)
 have hkp : ∀ W, Mod (· = bx) W3 W → W.heap.size = W3.heap.size → Calls Tryz.prog 188 #[.pointer (some ⟨b, 0, none⟩), .agg #[.int .i64 x0, .int .i64 x1, .int .i64 x2, .int .i64 x3, .int .i64 n, .slice a3 (cutP ps n).length c3], .bool false] W (TabPost W b (growI S w W3) (0, s.keep ⟨x0, x1, x2, x3, n, cutP ps n⟩ false)) := fun W hM hz => by
  have hcb : W.cell? ⟨b, 0, none⟩ = w.cell? ⟨b, 0, none⟩ := ((hM.cell (p := ⟨b, 0, none⟩) (by have := h.lt b h.sb; have := hB03.size; show b < _; omega) (fun e => by have := h.lt b h.sb; have := HBW.out; have e : b = bx := e; omega))).trans (hB03.cell (p := ⟨b, 0, none⟩) (h.lt b h.sb))
  refine inoKeep_any W b (growI S w W3) s (grow_in h hB03 hM HBW.out (fun _ hk => Or.inl hk) (growI_lt h.lt (by have := hB03.size; omega) (by omega))) ⟨x0, x1, x2, x3, n, a3, c3, cutP ps n⟩ ⟨?_, rowNil0 hg3, ⟨hg3.le, hg3.max⟩, Nat.le_trans (cutP_len _ _) (by decide)⟩ false l0 K1 o0 K3
  refine ((hg3.row.mod hM (fun k hk _ e => by have := hk.1; have e : k = bx := e; omega)).sub fun k _ hk => ⟨Or.inr ⟨Nat.le_trans HB2V.out.size hk.1, hk.2⟩, notMut_new h hcb (Nat.le_trans HB2V.out.size hk.1)⟩)
 have HB03 := Lib.hid hB03
 have HLT := Lib.hid h.lt
 clear hg3 hB3 hB03 h
 go_wp2_with fail
 refine (hkp _ (by exact modC (Mod.refl _ _)) (by simp only [World.size_setCell])).mono ?_
 clear hkp
 rintro e W4 ⟨rfl, hT4, hM4⟩
 have hfin := grow_done HLT.out (W3 := W3) (HB03.out.trans (by have := HBW.out; have := HB03.out.size; exact (show Below w.heap.size W3 _ by exact belC (Below.refl _ _)))) (by simp only [World.size_setCell]; exact Nat.le_refl _) hT4 hM4
 go_wp2_with fail
 go_ret
 exact ⟨rfl, hfin⟩
end Go.Proofs.YtajbooppoohplaaGreatDoor
