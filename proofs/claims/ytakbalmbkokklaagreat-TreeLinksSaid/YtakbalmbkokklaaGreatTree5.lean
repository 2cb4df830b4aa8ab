/- package tree: Rmdir, Unlink -/
import Derived.Test.YtakbalmbkokklaaGreatTree4
namespace Go.Proofs.YtakbalmbkokklaaGreat
open Go.RowKit Esch Go.Shelf

set_option maxRecDepth 100000 in
set_option maxHeartbeats 4000000 in
theorem rmdir1_any (W : World) (b tb pb : Nat) (S : Nat → Prop) (s : TrS) (h : TreeAt W b S s) (hok : s.ok) (p : Nm)
    (t0 : W.cell? ⟨tb, 0, none⟩ = some (.pointer (some ⟨b, 0, none⟩))) (p0 : W.cell? ⟨pb, 0, none⟩ = some (.string (bs p))) :
    Calls Tryz.prog 45 #[.pointer (some ⟨tb, 0, none⟩), .pointer (some ⟨pb, 0, none⟩)] W (DoPost (ChgR W b S ((s.rmdir p).run s))) := by
  have hpl := trPlace_any W b S s h p 70
  have hno := stop_no
  have hys := stop_yes
  have k0 := p0
  have hkd := fun W hW d => trKind_any W b S s hW d
  have H := Lib.hid h
  obtain ⟨r, hr⟩ : ∃ r, r = (s.rmdir p).run s := ⟨_, rfl⟩
  rw [← hr]
  have HR := Lib.hid hr
  clear h hr
  cases hp : s.place p 70 with
  | err x =>
    rw [hp] at hpl
    have HE := Lib.hid (show r = (x, s) by rw [HR.out]; unfold TrS.rmdir; rw [hp]; rfl)
    clear hp
    go_enter Tryz.func45, Tryz.ntmps45
    go_wp2_with fail
    refine hpl.mono ?_
    rintro e W2 ⟨hB2, rfl⟩
    go_wp2_with fail
    exact ⟨rfl, Or.inr ⟨x, rfl, by rw [HE.out], by rw [HE.out]; exact H.out.below' hB2, Mod.of_below hB2⟩⟩
  | ok x =>
    rw [hp] at hpl
    obtain ⟨xd, xn, xi⟩ := x
    have HP := Lib.hid hp
    clear hp
    by_cases hi : xi = 0
    · subst hi
      have HE := Lib.hid (show r = (60, s) by rw [HR.out]; unfold TrS.rmdir; rw [HP.out]; simp [Res.bind, stopB, Res.run])
      go_enter Tryz.func45, Tryz.ntmps45
      go_wp2_with fail
      refine hpl.mono ?_
      clear hpl
      rintro e W2 ⟨hB2, rfl⟩
      have t2 := below_at hB2 t0 (cell_lt t0)
      have p2 := below_at hB2 p0 (cell_lt p0)
      have k2 := below_at hB2 k0 (cell_lt k0)
      have HT2 := H.out.below' hB2
      simp only [spotV]
      obtain ⟨W4, hW4⟩ : ∃ W4, W4 = W2.alloc (.cells #[.int .i64 xd, .string (bs xn), .int .i64 (0)] 75) := ⟨_, rfl⟩
      have hB4 : Below W2.heap.size W2 W4 := by rw [hW4]; exact belC (Below.refl _ _)
      have x0 : W4.cell? ⟨W2.heap.size, 0, none⟩ = some (.int .i64 xd) := by rw [hW4]; go_simp
      have x1 : W4.cell? ⟨W2.heap.size, 1, none⟩ = some (.string (bs xn)) := by rw [hW4]; go_simp
      have x2 : W4.cell? ⟨W2.heap.size, 2, none⟩ = some (.int .i64 (0)) := by rw [hW4]; go_simp
      have t4 := below_at hB4 t2 (cell_lt t2)
      have p4 := below_at hB4 p2 (cell_lt p2)
      have k4 := below_at hB4 k2 (cell_lt k2)
      have nx : ¬ S W2.heap.size := fun hk => by have := HT2.lt _ hk; omega
      have HT4 := Lib.hid (HT2.below' hB4)
      have HM4 := Lib.hid (Mod.of_below (F := S) (hB2.trans (hB4.mono hB2.size)))
      have HW4 := Lib.hid hW4
      clear HT2 hB4 hW4 t2 p2 k2 hB2
      go_wp2_with fail
      rw [← HW4.out]
      refine (hys _ _).mono ?_
      rintro e w9 ⟨rfl, rfl⟩
      go_wp2_with fail
      exact ⟨rfl, Or.inr ⟨_, rfl, by rw [HE.out], by rw [HE.out]; exact HT4.out, HM4.out⟩⟩
    have hi2 : (xi == 0) = false := by simpa using hi
    have Hi := Lib.hid hi
    have hkd2 := fun W hW => hkd W hW xi
    clear hkd hi
    by_cases hk : s.kind xi = 1
    rotate_left 1
    · have HE := Lib.hid (show r = (62, s) by rw [HR.out]; unfold TrS.rmdir; rw [HP.out]; simp [Res.bind, stopB, Hi.out, hk, Res.run])
      have hk2 : (s.kind xi != 1) = true := by simpa using hk
      generalize s.kind xi = kk at hkd2 hk2
      clear hk
      go_enter Tryz.func45, Tryz.ntmps45
      go_wp2_with fail
      refine hpl.mono ?_
      clear hpl
      rintro e W2 ⟨hB2, rfl⟩
      have t2 := below_at hB2 t0 (cell_lt t0)
      have p2 := below_at hB2 p0 (cell_lt p0)
      have k2 := below_at hB2 k0 (cell_lt k0)
      have HT2 := H.out.below' hB2
      simp only [spotV]
      obtain ⟨W4, hW4⟩ : ∃ W4, W4 = W2.alloc (.cells #[.int .i64 xd, .string (bs xn), .int .i64 (xi)] 75) := ⟨_, rfl⟩
      have hB4 : Below W2.heap.size W2 W4 := by rw [hW4]; exact belC (Below.refl _ _)
      have x0 : W4.cell? ⟨W2.heap.size, 0, none⟩ = some (.int .i64 xd) := by rw [hW4]; go_simp
      have x1 : W4.cell? ⟨W2.heap.size, 1, none⟩ = some (.string (bs xn)) := by rw [hW4]; go_simp
      have x2 : W4.cell? ⟨W2.heap.size, 2, none⟩ = some (.int .i64 (xi)) := by rw [hW4]; go_simp
      have t4 := below_at hB4 t2 (cell_lt t2)
      have p4 := below_at hB4 p2 (cell_lt p2)
      have k4 := below_at hB4 k2 (cell_lt k2)
      have nx : ¬ S W2.heap.size := fun hk => by have := HT2.lt _ hk; omega
      have HT4 := Lib.hid (HT2.below' hB4)
      have HM4 := Lib.hid (Mod.of_below (F := S) (hB2.trans (hB4.mono hB2.size)))
      have HW4 := Lib.hid hW4
      clear HT2 hB4 hW4 t2 p2 k2 hB2
      go_wp2_with fail
      rw [← HW4.out]
      refine (hno _ _).mono ?_
      rintro e w9 ⟨rfl, rfl⟩
      go_wp2_with fail
      refine (hkd2 _ HT4.out).mono ?_
      rintro e w5 ⟨rfl, hB5⟩
      have t5 := below_at hB5 t4 (cell_lt t4)
      have y0 := below_at hB5 x0 (cell_lt x0)
      have y1 := below_at hB5 x1 (cell_lt x1)
      have y2 := below_at hB5 x2 (cell_lt x2)
      have HT5 := Lib.hid (HT4.out.below' hB5)
      have HM5 := Lib.hid (HM4.out.trans (Mod.of_below (F := S) hB5))
      clear hB5
      go_wp2_with fail
      refine (hys _ _).mono ?_
      rintro e w9 ⟨rfl, rfl⟩
      go_wp2_with fail
      exact ⟨rfl, Or.inr ⟨_, rfl, by rw [HE.out], by rw [HE.out]; exact HT5.out, HM5.out⟩⟩
    have Hk := Lib.hid hk
    rw [hk] at hkd2
    clear hk
    by_cases hc : 0 < s.n.count xi
    · have HE := Lib.hid (show r = (64, s) by rw [HR.out]; unfold TrS.rmdir; rw [HP.out]; simp [Res.bind, stopB, Hi.out, Hk.out, hc, Res.run])
      have hct := fun W nb S2 hW => dirCount_any W nb S2 s.n hW xi
      generalize s.n.count xi = cc at hct hc
      go_enter Tryz.func45, Tryz.ntmps45
      go_wp2_with fail
      refine hpl.mono ?_
      clear hpl
      rintro e W2 ⟨hB2, rfl⟩
      have t2 := below_at hB2 t0 (cell_lt t0)
      have p2 := below_at hB2 p0 (cell_lt p0)
      have k2 := below_at hB2 k0 (cell_lt k0)
      have HT2 := H.out.below' hB2
      simp only [spotV]
      obtain ⟨W4, hW4⟩ : ∃ W4, W4 = W2.alloc (.cells #[.int .i64 xd, .string (bs xn), .int .i64 (xi)] 75) := ⟨_, rfl⟩
      have hB4 : Below W2.heap.size W2 W4 := by rw [hW4]; exact belC (Below.refl _ _)
      have x0 : W4.cell? ⟨W2.heap.size, 0, none⟩ = some (.int .i64 xd) := by rw [hW4]; go_simp
      have x1 : W4.cell? ⟨W2.heap.size, 1, none⟩ = some (.string (bs xn)) := by rw [hW4]; go_simp
      have x2 : W4.cell? ⟨W2.heap.size, 2, none⟩ = some (.int .i64 (xi)) := by rw [hW4]; go_simp
      have t4 := below_at hB4 t2 (cell_lt t2)
      have p4 := below_at hB4 p2 (cell_lt p2)
      have k4 := below_at hB4 k2 (cell_lt k2)
      have nx : ¬ S W2.heap.size := fun hk => by have := HT2.lt _ hk; omega
      have HT4 := Lib.hid (HT2.below' hB4)
      have HM4 := Lib.hid (Mod.of_below (F := S) (hB2.trans (hB4.mono hB2.size)))
      have HW4 := Lib.hid hW4
      clear HT2 hB4 hW4 t2 p2 k2 hB2
      go_wp2_with fail
      rw [← HW4.out]
      refine (hno _ _).mono ?_
      rintro e w9 ⟨rfl, rfl⟩
      go_wp2_with fail
      refine (hkd2 _ HT4.out).mono ?_
      rintro e w5 ⟨rfl, hB5⟩
      have t5 := below_at hB5 t4 (cell_lt t4)
      have y0 := below_at hB5 x0 (cell_lt x0)
      have y1 := below_at hB5 x1 (cell_lt x1)
      have y2 := below_at hB5 x2 (cell_lt x2)
      have HT5 := Lib.hid (HT4.out.below' hB5)
      have HM5 := Lib.hid (HM4.out.trans (Mod.of_below (F := S) hB5))
      clear hB5
      go_wp2_with fail
      refine (hno _ _).mono ?_
      rintro e w9 ⟨rfl, rfl⟩
      go_wp2_with fail
      obtain ⟨sb, lt, ib, nb, S1, S2, c0, c1, ht, hn, s1, s2, dd, b1, b2⟩ := HT5.out
      have hBd : Below w9.heap.size w9 w9.drew := by exact belC (Below.refl _ _)
      have hct2 := hct w9.drew nb S2 (hn.below' hBd)
      have hKd : w9.drew.cell? ⟨tb, 0, none⟩ = some (.pointer (some ⟨b, 0, none⟩)) ∧ w9.drew.cell? ⟨b, 1, none⟩ = some (.pointer (some ⟨nb, 0, none⟩)) ∧ w9.drew.cell? ⟨W2.heap.size, 2, none⟩ = some (.int .i64 xi) := ⟨t5, c1, y2⟩
      clear ht hn s1 s2 dd lt sb c0 b1 b2 hct
      refine wp_region_held_drew (S := fun W' => W'.cell? ⟨tb, 0, none⟩ = some (.pointer (some ⟨b, 0, none⟩)) ∧ W'.cell? ⟨b, 1, none⟩ = some (.pointer (some ⟨nb, 0, none⟩)) ∧ W'.cell? ⟨W2.heap.size, 2, none⟩ = some (.int .i64 xi)) (by kernel_rfl) hKd (fun hHeld => ?_)
      refine takeL 0 ?_
      refine takeL 1 ?_
      refine takeL 2 ?_
      refine takeL 3 ?_
      refine takeL 4 ?_
      refine takeL 5 ?_
      refine wpAnyH_ready (rs := [6]) (by kernel_rfl) (by simp) ?_
      refine AllReadyH.cons (o := _) rfl (fun K hK => ?_) AllReadyH.nil
      go_simp
      go_at_call 47
      with_reducible refine hct2.mono ?_
      clear hct2
      rintro e w7 ⟨rfl, rfl⟩
      try go_wp2_with fail
      refine hK.out _ _ ⟨hKd.1, hKd.2.1, hKd.2.2⟩ (fun hHeld => ?_)
      clear hK K
      try simp only [Act.put, List.setIfInBounds_toArray, List.set_cons_zero, List.set_cons_succ]
      refine takeL 7 ?_
      refine wpAnyH_ready (rs := [8]) (by kernel_rfl) (by simp) ?_
      refine AllReadyH.cons (o := _) rfl (fun K hK => ?_) AllReadyH.nil
      go_simp
      go_at_call 41
      with_reducible refine (hys _ _).mono ?_
      rintro e w9b ⟨rfl, rfl⟩
      go_wp2_with fail
      exact ⟨rfl, Or.inr ⟨_, rfl, by rw [HE.out], by rw [HE.out]; exact HT5.out.below' (by exact belC (Below.refl _ _)), HM5.out.drew⟩⟩
    · have HE := Lib.hid (show r = (0, s.drop ⟨xd, xn, xi⟩) by rw [HR.out]; unfold TrS.rmdir; rw [HP.out]; simp [Res.bind, stopB, Hi.out, Hk.out, hc, Res.run])
      have hct := fun W nb S2 hW => dirCount_any W nb S2 s.n hW xi
      generalize s.n.count xi = cc at hct hc
      go_enter Tryz.func45, Tryz.ntmps45
      go_wp2_with fail
      refine hpl.mono ?_
      clear hpl
      rintro e W2 ⟨hB2, rfl⟩
      have t2 := below_at hB2 t0 (cell_lt t0)
      have p2 := below_at hB2 p0 (cell_lt p0)
      have k2 := below_at hB2 k0 (cell_lt k0)
      have HT2 := H.out.below' hB2
      simp only [spotV]
      obtain ⟨W4, hW4⟩ : ∃ W4, W4 = W2.alloc (.cells #[.int .i64 xd, .string (bs xn), .int .i64 (xi)] 75) := ⟨_, rfl⟩
      have hB4 : Below W2.heap.size W2 W4 := by rw [hW4]; exact belC (Below.refl _ _)
      have x0 : W4.cell? ⟨W2.heap.size, 0, none⟩ = some (.int .i64 xd) := by rw [hW4]; go_simp
      have x1 : W4.cell? ⟨W2.heap.size, 1, none⟩ = some (.string (bs xn)) := by rw [hW4]; go_simp
      have x2 : W4.cell? ⟨W2.heap.size, 2, none⟩ = some (.int .i64 (xi)) := by rw [hW4]; go_simp
      have t4 := below_at hB4 t2 (cell_lt t2)
      have p4 := below_at hB4 p2 (cell_lt p2)
      have k4 := below_at hB4 k2 (cell_lt k2)
      have nx : ¬ S W2.heap.size := fun hk => by have := HT2.lt _ hk; omega
      have HT4 := Lib.hid (HT2.below' hB4)
      have HM4 := Lib.hid (Mod.of_below (F := S) (hB2.trans (hB4.mono hB2.size)))
      have HW4 := Lib.hid hW4
      clear HT2 hB4 hW4 t2 p2 k2 hB2
      go_wp2_with fail
      rw [← HW4.out]
      refine (hno _ _).mono ?_
      rintro e w9 ⟨rfl, rfl⟩
      go_wp2_with fail
      refine (hkd2 _ HT4.out).mono ?_
      rintro e w5 ⟨rfl, hB5⟩
      have t5 := below_at hB5 t4 (cell_lt t4)
      have y0 := below_at hB5 x0 (cell_lt x0)
      have y1 := below_at hB5 x1 (cell_lt x1)
      have y2 := below_at hB5 x2 (cell_lt x2)
      have HT5 := Lib.hid (HT4.out.below' hB5)
      have HM5 := Lib.hid (HM4.out.trans (Mod.of_below (F := S) hB5))
      clear hB5
      go_wp2_with fail
      refine (hno _ _).mono ?_
      rintro e w9 ⟨rfl, rfl⟩
      go_wp2_with fail
      obtain ⟨sb, lt, ib, nb, S1, S2, c0, c1, ht, hn, s1, s2, dd, b1, b2⟩ := HT5.out
      have hBd : Below w9.heap.size w9 w9.drew := by exact belC (Below.refl _ _)
      have hct2 := hct w9.drew nb S2 (hn.below' hBd)
      have hKd : w9.drew.cell? ⟨tb, 0, none⟩ = some (.pointer (some ⟨b, 0, none⟩)) ∧ w9.drew.cell? ⟨b, 1, none⟩ = some (.pointer (some ⟨nb, 0, none⟩)) ∧ w9.drew.cell? ⟨W2.heap.size, 2, none⟩ = some (.int .i64 xi) := ⟨t5, c1, y2⟩
      clear ht hn s1 s2 dd lt sb c0 b1 b2 hct
      refine wp_region_held_drew (S := fun W' => W'.cell? ⟨tb, 0, none⟩ = some (.pointer (some ⟨b, 0, none⟩)) ∧ W'.cell? ⟨b, 1, none⟩ = some (.pointer (some ⟨nb, 0, none⟩)) ∧ W'.cell? ⟨W2.heap.size, 2, none⟩ = some (.int .i64 xi)) (by kernel_rfl) hKd (fun hHeld => ?_)
      refine takeL 0 ?_
      refine takeL 1 ?_
      refine takeL 2 ?_
      refine takeL 3 ?_
      refine takeL 4 ?_
      refine takeL 5 ?_
      refine wpAnyH_ready (rs := [6]) (by kernel_rfl) (by simp) ?_
      refine AllReadyH.cons (o := _) rfl (fun K hK => ?_) AllReadyH.nil
      go_simp
      go_at_call 47
      with_reducible refine hct2.mono ?_
      clear hct2
      rintro e w7 ⟨rfl, rfl⟩
      try go_wp2_with fail
      refine hK.out _ _ ⟨hKd.1, hKd.2.1, hKd.2.2⟩ (fun hHeld => ?_)
      clear hK K
      try simp only [Act.put, List.setIfInBounds_toArray, List.set_cons_zero, List.set_cons_succ]
      refine takeL 7 ?_
      refine wpAnyH_ready (rs := [8]) (by kernel_rfl) (by simp) ?_
      refine AllReadyH.cons (o := _) rfl (fun K hK => ?_) AllReadyH.nil
      go_simp
      go_at_call 41
      rw [show decide (0 < cc) = false from decide_eq_false (by omega)]
      with_reducible refine (hno _ _).mono ?_
      rintro e w9b ⟨rfl, rfl⟩
      try go_wp2_with fail
      refine hK.out _ _ ⟨hKd.1, hKd.2.1, hKd.2.2⟩ (fun hHeld => ?_)
      clear hK K
      try simp only [Act.put, List.setIfInBounds_toArray, List.set_cons_zero, List.set_cons_succ]
      refine wpAnyH_done (by kernel_rfl) ?_ _
      go_wp2_with fail
      have hdr2 := trDrop_any w9.drew b S s (HT5.out.below' (by exact belC (Below.refl _ _))) hok ⟨xd, xn, xi⟩
      simp only [spotV] at hdr2
      refine hdr2.mono ?_
      clear hdr2
      rintro e w12 ⟨rfl, hT12, hM12⟩
      go_wp2_with fail
      go_end0
      exact Or.inl ⟨rfl, by rw [HE.out], by rw [HE.out]; exact hT12, HM5.out.drew.trans hM12⟩
set_option maxRecDepth 100000 in
set_option maxHeartbeats 2000000 in
theorem trRmdir_any (w : World) (b : Nat) (S : Nat → Prop) (s : TrS) (h : TreeAt w b S s) (hok : s.ok) (p : Nm) :
    Calls Tryz.prog 15 #[.pointer (some ⟨b, 0, none⟩), .string (bs p)] w (ErrPost w b S ((s.rmdir p).run s)) := by
  have hmf : ∀ (fn : Fn) (first cap : Array Value) (w : World), (Instr.makeFunc fn first cap).run Tryz.prog w = .ok (.func fn first cap) w := fun _ _ _ _ => rfl
  obtain ⟨W1, hW1⟩ : ∃ W1, W1 = (w.alloc (.cells #[.pointer (some ⟨b, 0, none⟩)] 23)).alloc (.cells #[.string (bs p)] 9) := ⟨_, rfl⟩
  have hB1 : Below w.heap.size w W1 := by rw [hW1]; exact belC (Below.refl _ _)
  have hz1 : W1.heap.size = w.heap.size + 2 := by rw [hW1]; simp
  have hns : ∀ k, w.heap.size ≤ k → ¬ S k := fun k hk hs => by have := h.lt k hs; omega
  have hs1 : ¬ S W1.heap.size := hns _ (by omega)
  have hBe : Below w.heap.size w (W1.alloc (.cells #[.int .i64 0] 27)) := by exact belC hB1
  have hdo := rmdir1_any (W1.alloc (.cells #[.int .i64 0] 27)) b w.heap.size (w.heap.size + 1) S s (h.below' hBe) hok p (by rw [hW1]; go_simp) (by rw [hW1]; go_simp)
  have HM1 := Lib.hid (Mod.of_below (F := S) hB1)
  have HW1 := Lib.hid hW1
  obtain ⟨r, hr⟩ : ∃ r, r = (s.rmdir p).run s := ⟨_, rfl⟩
  rw [← hr] at hdo ⊢
  clear hr hB1 hW1 hBe h hz1 hns hok
  go_enter Tryz.func15, Tryz.ntmps15
  go_wp2_with fail
  rw [← HW1.out]
  refine (tries_tree W1 b 45 _ S r hs1 (enters_of Tryz.func45 (by kernel_rfl) rfl) hdo).mono ?_
  clear hdo
  rintro e W2 ⟨rfl, hT2, hM2⟩
  go_wp2_with fail
  go_ret
  exact ⟨rfl, hT2, HM1.out.trans hM2⟩
set_option maxRecDepth 100000 in
set_option maxHeartbeats 4000000 in
theorem unlink1_any (W : World) (b tb pb : Nat) (S : Nat → Prop) (s : TrS) (h : TreeAt W b S s) (hok : s.ok) (p : Nm)
    (t0 : W.cell? ⟨tb, 0, none⟩ = some (.pointer (some ⟨b, 0, none⟩))) (p0 : W.cell? ⟨pb, 0, none⟩ = some (.string (bs p))) :
    Calls Tryz.prog 58 #[.pointer (some ⟨tb, 0, none⟩), .pointer (some ⟨pb, 0, none⟩)] W (DoPost (ChgR W b S ((s.unlink p).run s))) := by
  have hpl := trPlace_any W b S s h p 70
  have hno := stop_no
  have hys := stop_yes
  have k0 := p0
  have hkd := fun W hW d => trKind_any W b S s hW d
  have H := Lib.hid h
  obtain ⟨r, hr⟩ : ∃ r, r = (s.unlink p).run s := ⟨_, rfl⟩
  rw [← hr]
  have HR := Lib.hid hr
  clear h hr
  cases hp : s.place p 70 with
  | err x =>
    rw [hp] at hpl
    have HE := Lib.hid (show r = (x, s) by rw [HR.out]; unfold TrS.unlink; rw [hp]; rfl)
    clear hp
    go_enter Tryz.func58, Tryz.ntmps58
    go_wp2_with fail
    refine hpl.mono ?_
    rintro e W2 ⟨hB2, rfl⟩
    go_wp2_with fail
    exact ⟨rfl, Or.inr ⟨x, rfl, by rw [HE.out], by rw [HE.out]; exact H.out.below' hB2, Mod.of_below hB2⟩⟩
  | ok x =>
    rw [hp] at hpl
    obtain ⟨xd, xn, xi⟩ := x
    have HP := Lib.hid hp
    clear hp
    by_cases hi : xi = 0
    · subst hi
      have HE := Lib.hid (show r = (60, s) by rw [HR.out]; unfold TrS.unlink; rw [HP.out]; simp [Res.bind, stopB, Res.run])
      go_enter Tryz.func58, Tryz.ntmps58
      go_wp2_with fail
      refine hpl.mono ?_
      clear hpl
      rintro e W2 ⟨hB2, rfl⟩
      have t2 := below_at hB2 t0 (cell_lt t0)
      have p2 := below_at hB2 p0 (cell_lt p0)
      have k2 := below_at hB2 k0 (cell_lt k0)
      have HT2 := H.out.below' hB2
      simp only [spotV]
      obtain ⟨W4, hW4⟩ : ∃ W4, W4 = W2.alloc (.cells #[.int .i64 xd, .string (bs xn), .int .i64 (0)] 75) := ⟨_, rfl⟩
      have hB4 : Below W2.heap.size W2 W4 := by rw [hW4]; exact belC (Below.refl _ _)
      have x0 : W4.cell? ⟨W2.heap.size, 0, none⟩ = some (.int .i64 xd) := by rw [hW4]; go_simp
      have x1 : W4.cell? ⟨W2.heap.size, 1, none⟩ = some (.string (bs xn)) := by rw [hW4]; go_simp
      have x2 : W4.cell? ⟨W2.heap.size, 2, none⟩ = some (.int .i64 (0)) := by rw [hW4]; go_simp
      have t4 := below_at hB4 t2 (cell_lt t2)
      have p4 := below_at hB4 p2 (cell_lt p2)
      have k4 := below_at hB4 k2 (cell_lt k2)
      have nx : ¬ S W2.heap.size := fun hk => by have := HT2.lt _ hk; omega
      have HT4 := Lib.hid (HT2.below' hB4)
      have HM4 := Lib.hid (Mod.of_below (F := S) (hB2.trans (hB4.mono hB2.size)))
      have HW4 := Lib.hid hW4
      clear HT2 hB4 hW4 t2 p2 k2 hB2
      go_wp2_with fail
      rw [← HW4.out]
      refine (hys _ _).mono ?_
      rintro e w9 ⟨rfl, rfl⟩
      go_wp2_with fail
      exact ⟨rfl, Or.inr ⟨_, rfl, by rw [HE.out], by rw [HE.out]; exact HT4.out, HM4.out⟩⟩
    have hi2 : (xi == 0) = false := by simpa using hi
    have Hi := Lib.hid hi
    have hkd2 := fun W hW => hkd W hW xi
    clear hkd hi
    by_cases hk : s.kind xi = 1
    · have HE := Lib.hid (show r = (63, s) by rw [HR.out]; unfold TrS.unlink; rw [HP.out]; simp [Res.bind, stopB, Hi.out, hk, Res.run])
      rw [hk] at hkd2
      clear hk
      go_enter Tryz.func58, Tryz.ntmps58
      go_wp2_with fail
      refine hpl.mono ?_
      clear hpl
      rintro e W2 ⟨hB2, rfl⟩
      have t2 := below_at hB2 t0 (cell_lt t0)
      have p2 := below_at hB2 p0 (cell_lt p0)
      have k2 := below_at hB2 k0 (cell_lt k0)
      have HT2 := H.out.below' hB2
      simp only [spotV]
      obtain ⟨W4, hW4⟩ : ∃ W4, W4 = W2.alloc (.cells #[.int .i64 xd, .string (bs xn), .int .i64 (xi)] 75) := ⟨_, rfl⟩
      have hB4 : Below W2.heap.size W2 W4 := by rw [hW4]; exact belC (Below.refl _ _)
      have x0 : W4.cell? ⟨W2.heap.size, 0, none⟩ = some (.int .i64 xd) := by rw [hW4]; go_simp
      have x1 : W4.cell? ⟨W2.heap.size, 1, none⟩ = some (.string (bs xn)) := by rw [hW4]; go_simp
      have x2 : W4.cell? ⟨W2.heap.size, 2, none⟩ = some (.int .i64 (xi)) := by rw [hW4]; go_simp
      have t4 := below_at hB4 t2 (cell_lt t2)
      have p4 := below_at hB4 p2 (cell_lt p2)
      have k4 := below_at hB4 k2 (cell_lt k2)
      have nx : ¬ S W2.heap.size := fun hk => by have := HT2.lt _ hk; omega
      have HT4 := Lib.hid (HT2.below' hB4)
      have HM4 := Lib.hid (Mod.of_below (F := S) (hB2.trans (hB4.mono hB2.size)))
      have HW4 := Lib.hid hW4
      clear HT2 hB4 hW4 t2 p2 k2 hB2
      go_wp2_with fail
      rw [← HW4.out]
      refine (hno _ _).mono ?_
      rintro e w9 ⟨rfl, rfl⟩
      go_wp2_with fail
      refine (hkd2 _ HT4.out).mono ?_
      rintro e w5 ⟨rfl, hB5⟩
      have t5 := below_at hB5 t4 (cell_lt t4)
      have y0 := below_at hB5 x0 (cell_lt x0)
      have y1 := below_at hB5 x1 (cell_lt x1)
      have y2 := below_at hB5 x2 (cell_lt x2)
      have HT5 := Lib.hid (HT4.out.below' hB5)
      have HM5 := Lib.hid (HM4.out.trans (Mod.of_below (F := S) hB5))
      clear hB5
      go_wp2_with fail
      refine (hys _ _).mono ?_
      rintro e w9 ⟨rfl, rfl⟩
      go_wp2_with fail
      exact ⟨rfl, Or.inr ⟨_, rfl, by rw [HE.out], by rw [HE.out]; exact HT5.out, HM5.out⟩⟩
    · have HE := Lib.hid (show r = (0, s.drop ⟨xd, xn, xi⟩) by rw [HR.out]; unfold TrS.unlink; rw [HP.out]; simp [Res.bind, stopB, Hi.out, hk, Res.run])
      have hk2 : (s.kind xi == 1) = false := by simpa using hk
      generalize s.kind xi = kk at hkd2 hk2
      clear hk
      go_enter Tryz.func58, Tryz.ntmps58
      go_wp2_with fail
      refine hpl.mono ?_
      clear hpl
      rintro e W2 ⟨hB2, rfl⟩
      have t2 := below_at hB2 t0 (cell_lt t0)
      have p2 := below_at hB2 p0 (cell_lt p0)
      have k2 := below_at hB2 k0 (cell_lt k0)
      have HT2 := H.out.below' hB2
      simp only [spotV]
      obtain ⟨W4, hW4⟩ : ∃ W4, W4 = W2.alloc (.cells #[.int .i64 xd, .string (bs xn), .int .i64 (xi)] 75) := ⟨_, rfl⟩
      have hB4 : Below W2.heap.size W2 W4 := by rw [hW4]; exact belC (Below.refl _ _)
      have x0 : W4.cell? ⟨W2.heap.size, 0, none⟩ = some (.int .i64 xd) := by rw [hW4]; go_simp
      have x1 : W4.cell? ⟨W2.heap.size, 1, none⟩ = some (.string (bs xn)) := by rw [hW4]; go_simp
      have x2 : W4.cell? ⟨W2.heap.size, 2, none⟩ = some (.int .i64 (xi)) := by rw [hW4]; go_simp
      have t4 := below_at hB4 t2 (cell_lt t2)
      have p4 := below_at hB4 p2 (cell_lt p2)
      have k4 := below_at hB4 k2 (cell_lt k2)
      have nx : ¬ S W2.heap.size := fun hk => by have := HT2.lt _ hk; omega
      have HT4 := Lib.hid (HT2.below' hB4)
      have HM4 := Lib.hid (Mod.of_below (F := S) (hB2.trans (hB4.mono hB2.size)))
      have HW4 := Lib.hid hW4
      clear HT2 hB4 hW4 t2 p2 k2 hB2
      go_wp2_with fail
      rw [← HW4.out]
      refine (hno _ _).mono ?_
      rintro e w9 ⟨rfl, rfl⟩
      go_wp2_with fail
      refine (hkd2 _ HT4.out).mono ?_
      rintro e w5 ⟨rfl, hB5⟩
      have t5 := below_at hB5 t4 (cell_lt t4)
      have y0 := below_at hB5 x0 (cell_lt x0)
      have y1 := below_at hB5 x1 (cell_lt x1)
      have y2 := below_at hB5 x2 (cell_lt x2)
      have HT5 := Lib.hid (HT4.out.below' hB5)
      have HM5 := Lib.hid (HM4.out.trans (Mod.of_below (F := S) hB5))
      clear hB5
      go_wp2_with fail
      refine (hno _ _).mono ?_
      rintro e w9 ⟨rfl, rfl⟩
      go_wp2_with fail
      have hdr2 := trDrop_any w9 b S s HT5.out hok ⟨xd, xn, xi⟩
      simp only [spotV] at hdr2
      refine hdr2.mono ?_
      clear hdr2
      rintro e w12 ⟨rfl, hT12, hM12⟩
      go_wp2_with fail
      go_end0
      exact Or.inl ⟨rfl, by rw [HE.out], by rw [HE.out]; exact hT12, HM5.out.trans hM12⟩
set_option maxRecDepth 100000 in
set_option maxHeartbeats 2000000 in
theorem trUnlink_any (w : World) (b : Nat) (S : Nat → Prop) (s : TrS) (h : TreeAt w b S s) (hok : s.ok) (p : Nm) :
    Calls Tryz.prog 23 #[.pointer (some ⟨b, 0, none⟩), .string (bs p)] w (ErrPost w b S ((s.unlink p).run s)) := by
  have hmf : ∀ (fn : Fn) (first cap : Array Value) (w : World), (Instr.makeFunc fn first cap).run Tryz.prog w = .ok (.func fn first cap) w := fun _ _ _ _ => rfl
  obtain ⟨W1, hW1⟩ : ∃ W1, W1 = (w.alloc (.cells #[.pointer (some ⟨b, 0, none⟩)] 23)).alloc (.cells #[.string (bs p)] 9) := ⟨_, rfl⟩
  have hB1 : Below w.heap.size w W1 := by rw [hW1]; exact belC (Below.refl _ _)
  have hz1 : W1.heap.size = w.heap.size + 2 := by rw [hW1]; simp
  have hns : ∀ k, w.heap.size ≤ k → ¬ S k := fun k hk hs => by have := h.lt k hs; omega
  have hs1 : ¬ S W1.heap.size := hns _ (by omega)
  have hBe : Below w.heap.size w (W1.alloc (.cells #[.int .i64 0] 27)) := by exact belC hB1
  have hdo := unlink1_any (W1.alloc (.cells #[.int .i64 0] 27)) b w.heap.size (w.heap.size + 1) S s (h.below' hBe) hok p (by rw [hW1]; go_simp) (by rw [hW1]; go_simp)
  have HM1 := Lib.hid (Mod.of_below (F := S) hB1)
  have HW1 := Lib.hid hW1
  obtain ⟨r, hr⟩ : ∃ r, r = (s.unlink p).run s := ⟨_, rfl⟩
  rw [← hr] at hdo ⊢
  clear hr hB1 hW1 hBe h hz1 hns hok
  go_enter Tryz.func23, Tryz.ntmps23
  go_wp2_with fail
  rw [← HW1.out]
  refine (tries_tree W1 b 58 _ S r hs1 (enters_of Tryz.func58 (by kernel_rfl) rfl) hdo).mono ?_
  clear hdo
  rintro e W2 ⟨rfl, hT2, hM2⟩
  go_wp2_with fail
  go_ret
  exact ⟨rfl, hT2, HM1.out.trans hM2⟩
end Go.Proofs.YtakbalmbkokklaaGreat
