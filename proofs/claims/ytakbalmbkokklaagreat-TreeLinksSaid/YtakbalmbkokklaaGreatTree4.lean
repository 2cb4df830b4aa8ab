/- package tree: make (Mkdir, Create) -/
import Derived.Test.YtakbalmbkokklaaGreatTree3
namespace Esch
open Go Go.RowKit
/-- a call's error, and the tree behind it, in a world that grew out of W1 -/
def ChgR (W1 : World) (b : Nat) (S : Nat → Prop) (r : Int × TrS) (x : Int) (W : World) : Prop := x = r.1 ∧ TreeAt W b S r.2 ∧ Mod S W1 W
theorem Mod.at' {S : Nat → Prop} {w w' : World} (h : Mod S w w') {b o : Nat} {v : Value} (hc : w.cell? ⟨b, o, none⟩ = some v) (hb : ¬ S b) : w'.cell? ⟨b, o, none⟩ = some v := h.at hc hb
end Esch
namespace Go.Proofs.YtakbalmbkokklaaGreat
open Go.RowKit Esch Go.Shelf

set_option maxRecDepth 100000 in
set_option maxHeartbeats 4000000 in
theorem make1_any (W : World) (b tb pb kb : Nat) (S : Nat → Prop) (s : TrS) (h : TreeAt W b S s) (hok : s.ok) (p : Nm) (k : Int) (hk : k = 1 ∨ k = 2)
    (t0 : W.cell? ⟨tb, 0, none⟩ = some (.pointer (some ⟨b, 0, none⟩))) (p0 : W.cell? ⟨pb, 0, none⟩ = some (.string (bs p))) (k0 : W.cell? ⟨kb, 0, none⟩ = some (.int .i64 k)) (nt : ¬ S tb) (nk : ¬ S kb) :
    Calls Tryz.prog 78 #[.pointer (some ⟨tb, 0, none⟩), .pointer (some ⟨pb, 0, none⟩), .pointer (some ⟨kb, 0, none⟩)] W (DoPost (ChgR W b S ((s.mk' p k).run s))) := by
  have hpl := trPlace_any W b S s h p 61
  have hno := stop_no
  have hys := stop_yes
  have hfu := fun W hW d => trFull_any W b S s hW d
  have had := fun W s' hW ho x i => trAdd_any W b S s' hW ho x i
  have H := Lib.hid h
  obtain ⟨r, hr⟩ : ∃ r, r = (s.mk' p k).run s := ⟨_, rfl⟩
  rw [← hr]
  have HR := Lib.hid hr
  clear h hr
  cases hp : s.place p 61 with
  | err x =>
    rw [hp] at hpl
    have HE := Lib.hid (show r = (x, s) by rw [HR.out]; unfold TrS.mk'; rw [hp]; rfl)
    clear hp
    go_enter Tryz.func78, Tryz.ntmps78
    go_wp2_with fail
    refine hpl.mono ?_
    rintro e W2 ⟨hB2, rfl⟩
    go_wp2_with fail
    exact ⟨rfl, Or.inr ⟨x, rfl, by rw [HE.out], by rw [HE.out]; exact H.out.below' hB2, Mod.of_below hB2⟩⟩
  | ok x =>
    rw [hp] at hpl
    obtain ⟨xd, xn, xi⟩ := x
    have HP := Lib.hid hp
    clear hp
    by_cases hi : xi = 0
    rotate_left 1
    · have HE := Lib.hid (show r = (61, s) by rw [HR.out]; unfold TrS.mk'; rw [HP.out]; simp [Res.bind, stopB, hi, Res.run])
      have hi2 : (xi != 0) = true := by simpa using hi
      clear hi
      go_enter Tryz.func78, Tryz.ntmps78
      go_wp2_with fail
      refine hpl.mono ?_
      clear hpl
      rintro e W2 ⟨hB2, rfl⟩
      have t2 := below_at hB2 t0 (cell_lt t0)
      have p2 := below_at hB2 p0 (cell_lt p0)
      have k2 := below_at hB2 k0 (cell_lt k0)
      have HT2 := H.out.below' hB2
      simp only [spotV]
      obtain ⟨W4, hW4⟩ : ∃ W4, W4 = W2.alloc (.cells #[.int .i64 xd, .string (bs xn), .int .i64 (xi)] 75) := ⟨_, rfl⟩
      have hB4 : Below W2.heap.size W2 W4 := by rw [hW4]; exact belC (Below.refl _ _)
      have x0 : W4.cell? ⟨W2.heap.size, 0, none⟩ = some (.int .i64 xd) := by rw [hW4]; go_simp
      have x1 : W4.cell? ⟨W2.heap.size, 1, none⟩ = some (.string (bs xn)) := by rw [hW4]; go_simp
      have x2 : W4.cell? ⟨W2.heap.size, 2, none⟩ = some (.int .i64 (xi)) := by rw [hW4]; go_simp
      have t4 := below_at hB4 t2 (cell_lt t2)
      have p4 := below_at hB4 p2 (cell_lt p2)
      have k4 := below_at hB4 k2 (cell_lt k2)
      have nx : ¬ S W2.heap.size := fun hk => by have := HT2.lt _ hk; omega
      have HT4 := Lib.hid (HT2.below' hB4)
      have HM4 := Lib.hid (Mod.of_below (F := S) (hB2.trans (hB4.mono hB2.size)))
      have HW4 := Lib.hid hW4
      clear HT2 hB4 hW4 t2 p2 k2 hB2
      go_wp2_with fail
      rw [← HW4.out]
      refine (hys _ _).mono ?_
      rintro e w9 ⟨rfl, rfl⟩
      go_wp2_with fail
      exact ⟨rfl, Or.inr ⟨_, rfl, by rw [HE.out], by rw [HE.out]; exact HT4.out, HM4.out⟩⟩
    subst hi
    by_cases hf : 64 ≤ s.n.count xd
    · have HE := Lib.hid (show r = (67, s) by rw [HR.out]; unfold TrS.mk'; rw [HP.out]; simp [Res.bind, stopB, hf, Res.run])
      have hf2 : decide (64 ≤ s.n.count xd) = true := by simpa using hf
      have hfu2 := fun W hW => hfu W hW xd
      rw [hf2] at hfu2
      clear hf hf2 hfu
      go_enter Tryz.func78, Tryz.ntmps78
      go_wp2_with fail
      refine hpl.mono ?_
      clear hpl
      rintro e W2 ⟨hB2, rfl⟩
      have t2 := below_at hB2 t0 (cell_lt t0)
      have p2 := below_at hB2 p0 (cell_lt p0)
      have k2 := below_at hB2 k0 (cell_lt k0)
      have HT2 := H.out.below' hB2
      simp only [spotV]
      obtain ⟨W4, hW4⟩ : ∃ W4, W4 = W2.alloc (.cells #[.int .i64 xd, .string (bs xn), .int .i64 (0)] 75) := ⟨_, rfl⟩
      have hB4 : Below W2.heap.size W2 W4 := by rw [hW4]; exact belC (Below.refl _ _)
      have x0 : W4.cell? ⟨W2.heap.size, 0, none⟩ = some (.int .i64 xd) := by rw [hW4]; go_simp
      have x1 : W4.cell? ⟨W2.heap.size, 1, none⟩ = some (.string (bs xn)) := by rw [hW4]; go_simp
      have x2 : W4.cell? ⟨W2.heap.size, 2, none⟩ = some (.int .i64 (0)) := by rw [hW4]; go_simp
      have t4 := below_at hB4 t2 (cell_lt t2)
      have p4 := below_at hB4 p2 (cell_lt p2)
      have k4 := below_at hB4 k2 (cell_lt k2)
      have nx : ¬ S W2.heap.size := fun hk => by have := HT2.lt _ hk; omega
      have HT4 := Lib.hid (HT2.below' hB4)
      have HM4 := Lib.hid (Mod.of_below (F := S) (hB2.trans (hB4.mono hB2.size)))
      have HW4 := Lib.hid hW4
      clear HT2 hB4 hW4 t2 p2 k2 hB2
      go_wp2_with fail
      rw [← HW4.out]
      refine (hno _ _).mono ?_
      rintro e w9 ⟨rfl, rfl⟩
      go_wp2_with fail
      refine (hfu2 _ HT4.out).mono ?_
      rintro e w5 ⟨rfl, rfl⟩
      go_wp2_with fail
      refine (hys _ _).mono ?_
      rintro e w9 ⟨rfl, rfl⟩
      go_wp2_with fail
      exact ⟨rfl, Or.inr ⟨_, rfl, by rw [HE.out], by rw [HE.out]; exact HT4.out, HM4.out⟩⟩
    have hf2 : decide (64 ≤ s.n.count xd) = false := by simpa using hf
    have hfu2 := fun W hW => hfu W hW xd
    rw [hf2] at hfu2
    have Hf := Lib.hid hf
    clear hf hf2 hfu
    obtain ⟨rm, hrm⟩ : ∃ rm, rm = s.t.make k := ⟨_, rfl⟩
    have hmk := fun W ib S1 hW => inoMake_any W ib S1 s.t hW k hk hok.t.next
    rw [← hrm] at hmk
    have hokm := hok.t.make k
    rw [← hrm] at hokm
    obtain ⟨⟨mi, me⟩, mt⟩ := rm
    by_cases hme : me = 0
    rotate_left 1
    · have HE := Lib.hid (show r = (me, s) by rw [HR.out]; unfold TrS.mk'; rw [HP.out]; simp [Res.bind, stopB, Hf.out, Res.run, ← hrm, hme])
      have hsame : mt = s.t := by
        have h1 := hrm
        unfold TabS.make at h1
        split at h1
        · exact (Prod.mk.inj h1).2
        split at h1
        · exact (Prod.mk.inj h1).2
        · exact absurd (Prod.mk.inj (Prod.mk.inj h1).1).2 hme
      have hme2 : (me != 0) = true := by simpa using hme
      clear hrm hme hokm
      go_enter Tryz.func78, Tryz.ntmps78
      go_wp2_with fail
      refine hpl.mono ?_
      clear hpl
      rintro e W2 ⟨hB2, rfl⟩
      have t2 := below_at hB2 t0 (cell_lt t0)
      have p2 := below_at hB2 p0 (cell_lt p0)
      have k2 := below_at hB2 k0 (cell_lt k0)
      have HT2 := H.out.below' hB2
      simp only [spotV]
      obtain ⟨W4, hW4⟩ : ∃ W4, W4 = W2.alloc (.cells #[.int .i64 xd, .string (bs xn), .int .i64 (0)] 75) := ⟨_, rfl⟩
      have hB4 : Below W2.heap.size W2 W4 := by rw [hW4]; exact belC (Below.refl _ _)
      have x0 : W4.cell? ⟨W2.heap.size, 0, none⟩ = some (.int .i64 xd) := by rw [hW4]; go_simp
      have x1 : W4.cell? ⟨W2.heap.size, 1, none⟩ = some (.string (bs xn)) := by rw [hW4]; go_simp
      have x2 : W4.cell? ⟨W2.heap.size, 2, none⟩ = some (.int .i64 (0)) := by rw [hW4]; go_simp
      have t4 := below_at hB4 t2 (cell_lt t2)
      have p4 := below_at hB4 p2 (cell_lt p2)
      have k4 := below_at hB4 k2 (cell_lt k2)
      have nx : ¬ S W2.heap.size := fun hk => by have := HT2.lt _ hk; omega
      have HT4 := Lib.hid (HT2.below' hB4)
      have HM4 := Lib.hid (Mod.of_below (F := S) (hB2.trans (hB4.mono hB2.size)))
      have HW4 := Lib.hid hW4
      clear HT2 hB4 hW4 t2 p2 k2 hB2
      go_wp2_with fail
      rw [← HW4.out]
      refine (hno _ _).mono ?_
      rintro e w9 ⟨rfl, rfl⟩
      go_wp2_with fail
      refine (hfu2 _ HT4.out).mono ?_
      rintro e w5 ⟨rfl, rfl⟩
      go_wp2_with fail
      refine (hno _ _).mono ?_
      rintro e w9 ⟨rfl, rfl⟩
      go_wp2_with fail
      obtain ⟨sb, lt, ib, nb, S1, S2, c0, c1, ht, hn, s1, s2, dd, b1, b2⟩ := HT4.out
      have hBd : Below w9.heap.size w9 w9.drew := by exact belC (Below.refl _ _)
      have hmk2 := hmk w9.drew ib S1 (ht.below' hBd)
      have HX := Lib.hid (show ∀ W', TabAt W' ib S1 mt → Mod S1 w9.drew W' → TreeAt W' b S ⟨mt, s.n⟩ ∧ Mod S w9.drew W' from fun W' h1 h2 => TreeAt.tab (s := s) sb lt c0 c1 (hn.below' hBd) s1 s2 dd b1 b2 h1 h2)
      have hKd : w9.drew.cell? ⟨tb, 0, none⟩ = some (.pointer (some ⟨b, 0, none⟩)) ∧ w9.drew.cell? ⟨kb, 0, none⟩ = some (.int .i64 k) ∧ w9.drew.cell? ⟨b, 0, none⟩ = some (.pointer (some ⟨ib, 0, none⟩)) := ⟨t4, k4, c0⟩
      have q1 : ¬ S1 tb := fun hk => nt (s1 _ hk)
      have q2 : ¬ S1 kb := fun hk => nk (s1 _ hk)
      have q3 : ¬ S1 W2.heap.size := fun hk => nx (s1 _ hk)
      clear ht hn s1 s2 dd lt sb c1 b2 hmk
      go_region_held3 (fun W' => W'.cell? ⟨tb, 0, none⟩ = some (.pointer (some ⟨b, 0, none⟩)) ∧ W'.cell? ⟨kb, 0, none⟩ = some (.int .i64 k) ∧ W'.cell? ⟨b, 0, none⟩ = some (.pointer (some ⟨ib, 0, none⟩)))
        (first
          | with_reducible exact hKd
          | with_reducible exact hKm)
        (first
          | (go_at_call 79; (with_reducible refine hmk2.mono ?_); rintro e w10 ⟨rfl, hT10, hM10⟩
             have hKm : w10.cell? ⟨tb, 0, none⟩ = some (.pointer (some ⟨b, 0, none⟩)) ∧ w10.cell? ⟨kb, 0, none⟩ = some (.int .i64 k) ∧ w10.cell? ⟨b, 0, none⟩ = some (.pointer (some ⟨ib, 0, none⟩)) := ⟨hM10.at hKd.1 q1, hM10.at hKd.2.1 q2, hM10.at hKd.2.2 b1⟩
             have HT10 := Lib.hid (HX.out _ hT10 hM10).1
             have HM10 := Lib.hid (HM4.out.trans ((show Mod S w9 w9.drew by exact modC (Mod.refl _ _)).trans (HX.out _ hT10 hM10).2))
             have y0 := hM10.at (show w9.drew.cell? ⟨W2.heap.size, 0, none⟩ = _ from x0) q3
             have y1 := hM10.at (show w9.drew.cell? ⟨W2.heap.size, 1, none⟩ = _ from x1) q3
             have y2 := hM10.at (show w9.drew.cell? ⟨W2.heap.size, 2, none⟩ = _ from x2) q3
             clear hT10 hM10))
      go_wp2_with fail
      refine (hys _ _).mono ?_
      rintro e w11 ⟨rfl, rfl⟩
      go_wp2_with fail
      have hT := HT10.out
      rw [show (⟨mt, s.n⟩ : TrS) = s by rw [hsame]] at hT
      exact ⟨rfl, Or.inr ⟨_, rfl, by rw [HE.out], by rw [HE.out]; exact hT, HM10.out⟩⟩
    · subst hme
      have HE := Lib.hid (show r = (0, TrS.add ⟨mt, s.n⟩ ⟨xd, xn, 0⟩ mi) by rw [HR.out]; unfold TrS.mk'; rw [HP.out]; simp [Res.bind, stopB, Hf.out, Res.run, ← hrm])
      have had2 := fun W hW => had W ⟨mt, s.n⟩ hW ⟨hokm, hok.n⟩ ⟨xd, xn, 0⟩ mi
      simp only [spotV] at had2
      clear hrm hokm had
      go_enter Tryz.func78, Tryz.ntmps78
      go_wp2_with fail
      refine hpl.mono ?_
      clear hpl
      rintro e W2 ⟨hB2, rfl⟩
      have t2 := below_at hB2 t0 (cell_lt t0)
      have p2 := below_at hB2 p0 (cell_lt p0)
      have k2 := below_at hB2 k0 (cell_lt k0)
      have HT2 := H.out.below' hB2
      simp only [spotV]
      obtain ⟨W4, hW4⟩ : ∃ W4, W4 = W2.alloc (.cells #[.int .i64 xd, .string (bs xn), .int .i64 (0)] 75) := ⟨_, rfl⟩
      have hB4 : Below W2.heap.size W2 W4 := by rw [hW4]; exact belC (Below.refl _ _)
      have x0 : W4.cell? ⟨W2.heap.size, 0, none⟩ = some (.int .i64 xd) := by rw [hW4]; go_simp
      have x1 : W4.cell? ⟨W2.heap.size, 1, none⟩ = some (.string (bs xn)) := by rw [hW4]; go_simp
      have x2 : W4.cell? ⟨W2.heap.size, 2, none⟩ = some (.int .i64 (0)) := by rw [hW4]; go_simp
      have t4 := below_at hB4 t2 (cell_lt t2)
      have p4 := below_at hB4 p2 (cell_lt p2)
      have k4 := below_at hB4 k2 (cell_lt k2)
      have nx : ¬ S W2.heap.size := fun hk => by have := HT2.lt _ hk; omega
      have HT4 := Lib.hid (HT2.below' hB4)
      have HM4 := Lib.hid (Mod.of_below (F := S) (hB2.trans (hB4.mono hB2.size)))
      have HW4 := Lib.hid hW4
      clear HT2 hB4 hW4 t2 p2 k2 hB2
      go_wp2_with fail
      rw [← HW4.out]
      refine (hno _ _).mono ?_
      rintro e w9 ⟨rfl, rfl⟩
      go_wp2_with fail
      refine (hfu2 _ HT4.out).mono ?_
      rintro e w5 ⟨rfl, rfl⟩
      go_wp2_with fail
      refine (hno _ _).mono ?_
      rintro e w9 ⟨rfl, rfl⟩
      go_wp2_with fail
      obtain ⟨sb, lt, ib, nb, S1, S2, c0, c1, ht, hn, s1, s2, dd, b1, b2⟩ := HT4.out
      have hBd : Below w9.heap.size w9 w9.drew := by exact belC (Below.refl _ _)
      have hmk2 := hmk w9.drew ib S1 (ht.below' hBd)
      have HX := Lib.hid (show ∀ W', TabAt W' ib S1 mt → Mod S1 w9.drew W' → TreeAt W' b S ⟨mt, s.n⟩ ∧ Mod S w9.drew W' from fun W' h1 h2 => TreeAt.tab (s := s) sb lt c0 c1 (hn.below' hBd) s1 s2 dd b1 b2 h1 h2)
      have hKd : w9.drew.cell? ⟨tb, 0, none⟩ = some (.pointer (some ⟨b, 0, none⟩)) ∧ w9.drew.cell? ⟨kb, 0, none⟩ = some (.int .i64 k) ∧ w9.drew.cell? ⟨b, 0, none⟩ = some (.pointer (some ⟨ib, 0, none⟩)) := ⟨t4, k4, c0⟩
      have q1 : ¬ S1 tb := fun hk => nt (s1 _ hk)
      have q2 : ¬ S1 kb := fun hk => nk (s1 _ hk)
      have q3 : ¬ S1 W2.heap.size := fun hk => nx (s1 _ hk)
      clear ht hn s1 s2 dd lt sb c1 b2 hmk
      go_region_held3 (fun W' => W'.cell? ⟨tb, 0, none⟩ = some (.pointer (some ⟨b, 0, none⟩)) ∧ W'.cell? ⟨kb, 0, none⟩ = some (.int .i64 k) ∧ W'.cell? ⟨b, 0, none⟩ = some (.pointer (some ⟨ib, 0, none⟩)))
        (first
          | with_reducible exact hKd
          | with_reducible exact hKm)
        (first
          | (go_at_call 79; (with_reducible refine hmk2.mono ?_); rintro e w10 ⟨rfl, hT10, hM10⟩
             have hKm : w10.cell? ⟨tb, 0, none⟩ = some (.pointer (some ⟨b, 0, none⟩)) ∧ w10.cell? ⟨kb, 0, none⟩ = some (.int .i64 k) ∧ w10.cell? ⟨b, 0, none⟩ = some (.pointer (some ⟨ib, 0, none⟩)) := ⟨hM10.at hKd.1 q1, hM10.at hKd.2.1 q2, hM10.at hKd.2.2 b1⟩
             have HT10 := Lib.hid (HX.out _ hT10 hM10).1
             have HM10 := Lib.hid (HM4.out.trans ((show Mod S w9 w9.drew by exact modC (Mod.refl _ _)).trans (HX.out _ hT10 hM10).2))
             have y0 := hM10.at (show w9.drew.cell? ⟨W2.heap.size, 0, none⟩ = _ from x0) q3
             have y1 := hM10.at (show w9.drew.cell? ⟨W2.heap.size, 1, none⟩ = _ from x1) q3
             have y2 := hM10.at (show w9.drew.cell? ⟨W2.heap.size, 2, none⟩ = _ from x2) q3
             clear hT10 hM10))
      obtain ⟨m0, m1, m2⟩ := hKm
      go_wp2_with fail
      refine (hno _ _).mono ?_
      rintro e w9 ⟨rfl, rfl⟩
      go_wp2_with fail
      refine (had2 _ HT10.out).mono ?_
      clear had2
      rintro e w12 ⟨rfl, hT12, hM12⟩
      go_wp2_with fail
      go_end0
      exact Or.inl ⟨rfl, by rw [HE.out], by rw [HE.out]; exact hT12, HM10.out.trans hM12⟩
def ErrPost (w : World) (b : Nat) (S : Nat → Prop) (r : Int × TrS) (e : Ending) (w' : World) : Prop := e = .returned (.int .i64 r.1) ∧ TreeAt w' b S r.2 ∧ Mod S w w'
theorem tries_tree (w : World) (b g : Nat) (lb : Array Value) (S : Nat → Prop) (r : Int × TrS) (hS : ¬ S w.heap.size) (eg : ∀ args w, (callFunc g args).run Tryz.prog w = .ok (.enter g args) w)
    (hdo : Calls Tryz.prog g lb (w.alloc (.cells #[.int .i64 0] 27)) (DoPost (ChgR (w.alloc (.cells #[.int .i64 0] 27)) b S r))) :
    Calls Tryz.prog 38 #[.pointer (some ⟨b, 0, none⟩), .func (.func g) #[] lb] w (ErrPost w b S r) := by
  refine (tries_any w b g lb _ eg hdo (fun x W hr => ⟨hr.2.2.at (by go_simp) hS, (hr.2.2.frozen (p := ⟨w.heap.size, 0, none⟩) (by simp) hS).trans (by go_simp)⟩)).mono ?_
  rintro e w' ⟨x, W, rfl, ⟨rfl, hT, hM⟩, hM2⟩
  have h1 : Mod S w W := (show Mod S w (w.alloc (.cells #[.int .i64 0] 27)) by exact modC (Mod.refl _ _)).trans hM
  exact ⟨rfl, hT.mod hM2 (fun k hk e => hS (by rw [← e]; exact hk)), ⟨hM2.os.trans h1.os, hM2.tape.trans h1.tape, hM2.output.trans h1.output, Nat.le_trans h1.size hM2.size, fun k hk hF => (hM2.block k (Nat.lt_of_lt_of_le hk h1.size) (fun e => by have e : k = w.heap.size := e; omega)).trans (h1.block k hk hF)⟩⟩
set_option maxRecDepth 100000 in
set_option maxHeartbeats 2000000 in
theorem trMake_any (w : World) (b : Nat) (S : Nat → Prop) (s : TrS) (h : TreeAt w b S s) (hok : s.ok) (p : Nm) (k : Int) (hk : k = 1 ∨ k = 2) :
    Calls Tryz.prog 37 #[.pointer (some ⟨b, 0, none⟩), .string (bs p), .int .i64 k] w (ErrPost w b S ((s.mk' p k).run s)) := by
  have hmf : ∀ (fn : Fn) (first cap : Array Value) (w : World), (Instr.makeFunc fn first cap).run Tryz.prog w = .ok (.func fn first cap) w := fun _ _ _ _ => rfl
  obtain ⟨W1, hW1⟩ : ∃ W1, W1 = ((w.alloc (.cells #[.pointer (some ⟨b, 0, none⟩)] 23)).alloc (.cells #[.string (bs p)] 9)).alloc (.cells #[.int .i64 k] 3) := ⟨_, rfl⟩
  have hB1 : Below w.heap.size w W1 := by rw [hW1]; exact belC (Below.refl _ _)
  have hz1 : W1.heap.size = w.heap.size + 3 := by rw [hW1]; simp
  have hns : ∀ k, w.heap.size ≤ k → ¬ S k := fun k hk hs => by have := h.lt k hs; omega
  have hs1 : ¬ S W1.heap.size := hns _ (by omega)
  have hBe : Below w.heap.size w (W1.alloc (.cells #[.int .i64 0] 27)) := by exact belC hB1
  have hdo := make1_any (W1.alloc (.cells #[.int .i64 0] 27)) b w.heap.size (w.heap.size + 1) (w.heap.size + 2) S s (h.below' hBe) hok p k hk (by rw [hW1]; go_simp) (by rw [hW1]; go_simp) (by rw [hW1]; go_simp) (hns _ (Nat.le_refl _)) (hns _ (by omega))
  have HM1 := Lib.hid (Mod.of_below (F := S) hB1)
  have HW1 := Lib.hid hW1
  obtain ⟨r, hr⟩ : ∃ r, r = (s.mk' p k).run s := ⟨_, rfl⟩
  rw [← hr] at hdo ⊢
  clear hr hB1 hW1 hBe h hz1 hns hok
  go_enter Tryz.func37, Tryz.ntmps37
  go_wp2_with fail
  rw [← HW1.out]
  refine (tries_tree W1 b 78 _ S r hs1 (enters_of Tryz.func78 (by kernel_rfl) rfl) hdo).mono ?_
  clear hdo
  rintro e W2 ⟨rfl, hT2, hM2⟩
  go_wp2_with fail
  go_ret
  exact ⟨rfl, hT2, HM1.out.trans hM2⟩
theorem trMkdir_any (w : World) (b : Nat) (S : Nat → Prop) (s : TrS) (h : TreeAt w b S s) (hok : s.ok) (p : Nm) :
    Calls Tryz.prog 12 #[.pointer (some ⟨b, 0, none⟩), .string (bs p)] w (ErrPost w b S ((s.mk' p 1).run s)) := by
  have hm := trMake_any w b S s h hok p 1 (Or.inl rfl)
  generalize (s.mk' p 1).run s = r at hm ⊢
  go_enter Tryz.func12, Tryz.ntmps12
  go_wp2_with fail
  refine hm.mono ?_
  clear hm
  rintro e w1 ⟨rfl, hT, hM⟩
  go_wp2_with fail
  go_ret
  exact ⟨rfl, hT, hM⟩
theorem trCreate_any (w : World) (b : Nat) (S : Nat → Prop) (s : TrS) (h : TreeAt w b S s) (hok : s.ok) (p : Nm) :
    Calls Tryz.prog 19 #[.pointer (some ⟨b, 0, none⟩), .string (bs p)] w (ErrPost w b S ((s.mk' p 2).run s)) := by
  have hm := trMake_any w b S s h hok p 2 (Or.inr rfl)
  generalize (s.mk' p 2).run s = r at hm ⊢
  go_enter Tryz.func19, Tryz.ntmps19
  go_wp2_with fail
  refine hm.mono ?_
  clear hm
  rintro e w1 ⟨rfl, hT, hM⟩
  go_wp2_with fail
  go_ret
  exact ⟨rfl, hT, hM⟩
end Go.Proofs.YtakbalmbkokklaaGreat
