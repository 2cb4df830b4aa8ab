import Derived.Test.YtakbalmbkokklaaGreatPkTree
/- package tree: Rmdir, Unlink -/
namespace Go.Proofs.YtakbalmbkokklaaGreat
open Go.RowKit Esch Go.Shelf

set_option maxRecDepth 100000 in
set_option maxHeartbeats 4000000 in
theorem rmdir1_any (W : World) (b tb pb : Nat) (S : Nat → Prop) (s : TrS) (h : TreeAt W b S s) (hok : s.ok) (p : Nm)
    (t0 : W.cell? ⟨tb, 0, none⟩ = some (.pointer (some ⟨b, 0, none⟩))) (p0 : W.cell? ⟨pb, 0, none⟩ = some (.string (bs p))) :
    Calls Tryz.prog 45 #[.pointer (some ⟨tb, 0, none⟩), .pointer (some ⟨pb, 0, none⟩)] W (DoPost (ChgR W b S ((s.rmdir p).run s))) := by
  have hpl := trPlace_any W b S s h p 70
  have hno := stop_no
  have hys := stop_yes
  have k0 := p0
  have hkd := fun W hW d => trKind_any W b S s hW d
  have H := Lib.hid h
  obtain ⟨r, hr⟩ : ∃ r, r = (s.rmdir p).run s := ⟨_, rfl⟩
  rw [← hr]
  have HR := Lib.hid hr
  clear h hr
  cases hp : s.place p 70 with
  | err x =>
    rw [hp] at hpl
    have HE := Lib.hid (show r = (x, s) by rw [HR.out]; unfold TrS.rmdir; rw [hp]; rfl)
    clear hp
    go_enter Tryz.func45, Tryz.ntmps45
    go_wp2_with fail
    refine hpl.mono ?_
    rintro e W2 ⟨hB2, rfl⟩
    go_wp2_with fail
    exact ⟨rfl, Or.inr ⟨x, rfl, by rw [HE.out], by rw [HE.out]; exact H.out.below' hB2, Mod.of_below hB2⟩⟩
  | ok x =>
    rw [hp] at hpl
    obtain ⟨xd, xn, xi⟩ := x
    have HP := Lib.hid hp
    clear hp
    by_cases hi : xi = 0
    · subst hi
      have HE := Lib.hid (show r = (60, s) by rw [HR.out]; unfold TrS.rmdir; rw [HP.out]; simp [Res.bind, stopB, Res.run])
      go_enter Tryz.func45, Tryz.ntmps45
      go_wp2_with fail
      refine hpl.mono ?_
      clear hpl
      rintro e W2 ⟨hB2, rfl⟩
      have t2 := below_at hB2 t0 (cell_lt t0)
      have p2 := below_at hB2 p0 (cell_lt p0)
      have k2 := below_at hB2 k0 (cell_lt k0)
      have HT2 := H.out.below' hB2
      simp only [spotV]
      obtain ⟨W4, hW4⟩ : ∃ W4, W4 = W2.alloc (.cells #[.int .i64 xd, .string (bs xn), .int .i64 (0)] 75) := ⟨_, rfl⟩
      have hB4 : Below W2.heap.size W2 W4 := by rw [hW4]; exact belC (Below.refl _ _)
      have x0 : W4.cell? ⟨W2.heap.size, 0, none⟩ = some (.int .i64 xd) := by rw [hW4]; go_simp
      have x1 : W4.cell? ⟨W2.heap.size, 1, none⟩ = some (.string (bs xn)) := by rw [hW4]; go_simp
      have x2 : W4.cell? ⟨W2.heap.size, 2, none⟩ = some (.int .i64 (0)) := by rw [hW4]; go_simp
      have t4 := below_at hB4 t2 (cell_lt t2)
      have p4 := below_at hB4 p2 (cell_lt p2)
      have k4 := below_at hB4 k2 (cell_lt k2)
      have nx : ¬ S W2.heap.size := fun hk => by have := HT2.lt _ hk; omega
      have HT4 := Lib.hid (HT2.below' hB4)
      have HM4 := Lib.hid (Mod.of_below (F := S) (hB2.trans (hB4.mono hB2.size)))
      have HW4 := Lib.hid hW4
      clear HT2 hB4 hW4 t2 p2 k2 hB2
      go_wp2_with fail
      rw [← HW4.out]
      refine (hys _ _).mono ?_
      rintro e w9 ⟨rfl, rfl⟩
      go_wp2_with fail
      exact ⟨rfl, Or.inr ⟨_, rfl, by rw [HE.out], by rw [HE.out]; exact HT4.out, HM4.out⟩⟩
    have hi2 : (xi == 0) = false := by simpa using hi
    have Hi := Lib.hid hi
    have hkd2 := fun W hW => hkd W hW xi
    clear hkd hi
    by_cases hk : s.kind xi = 1
    rotate_left 1
    · have HE := Lib.hid (show r = (62, s) by rw [HR.out]; unfold TrS.rmdir; rw [HP.out]; simp [Res.bind, stopB, Hi.out, hk, Res.run])
      have hk2 : (s.kind xi != 1) = true := by simpa using hk
      generalize s.kind xi = kk at hkd2 hk2
      clear hk
      go_enter Tryz.func45, Tryz.ntmps45
      go_wp2_with fail
      refine hpl.mono ?_
      clear hpl
      rintro e W2 ⟨hB2, rfl⟩
      have t2 := below_at hB2 t0 (cell_lt t0)
      have p2 := below_at hB2 p0 (cell_lt p0)
      have k2 := below_at hB2 k0 (cell_lt k0)
      have HT2 := H.out.below' hB2
      simp only [spotV]
      obtain ⟨W4, hW4⟩ : ∃ W4, W4 = W2.alloc (.cells #[.int .i64 xd, .string (bs xn), .int .i64 (xi)] 75) := ⟨_, rfl⟩
      have hB4 : Below W2.heap.size W2 W4 := by rw [hW4]; exact belC (Below.refl _ _)
      have x0 : W4.cell? ⟨W2.heap.size, 0, none⟩ = some (.int .i64 xd) := by rw [hW4]; go_simp
      have x1 : W4.cell? ⟨W2.heap.size, 1, none⟩ = some (.string (bs xn)) := by rw [hW4]; go_simp
      have x2 : W4.cell? ⟨W2.heap.size, 2, none⟩ = some (.int .i64 (xi)) := by rw [hW4]; go_simp
      have t4 := below_at hB4 t2 (cell_lt t2)
      have p4 := below_at hB4 p2 (cell_lt p2)
      have k4 := below_at hB4 k2 (cell_lt k2)
      have nx : ¬ S W2.heap.size := fun hk => by have := HT2.lt _ hk; omega
      have HT4 := Lib.hid (HT2.below' hB4)
      have HM4 := Lib.hid (Mod.of_below (F := S) (hB2.trans (hB4.mono hB2.size)))
      have HW4 := Lib.hid hW4
      clear HT2 hB4 hW4 t2 p2 k2 hB2
      go_wp2_with fail
      rw [← HW4.out]
      refine (hno _ _).mono ?_
      rintro e w9 ⟨rfl, rfl⟩
      go_wp2_with fail
      refine (hkd2 _ HT4.out).mono ?_
      rintro e w5 ⟨rfl, hB5⟩
      have t5 := below_at hB5 t4 (cell_lt t4)
      have y0 := below_at hB5 x0 (cell_lt x0)
      have y1 := below_at hB5 x1 (cell_lt x1)
      have y2 := below_at hB5 x2 (cell_lt x2)
      have HT5 := Lib.hid (HT4.out.below' hB5)
      have HM5 := Lib.hid (HM4.out.trans (Mod.of_below (F := S) hB5))
      clear hB5
      go_wp2_with fail
      refine (hys _ _).mono ?_
      rintro e w9 ⟨rfl, rfl⟩
      go_wp2_with fail
      exact ⟨rfl, Or.inr ⟨_, rfl, by rw [HE.out], by rw [HE.out]; exact HT5.out, HM5.out⟩⟩
    have Hk := Lib.hid hk
    rw [hk] at hkd2
    clear hk
    by_cases hc : 0 < s.n.count xi
    · have HE := Lib.hid (show r = (64, s) by rw [HR.out]; unfold TrS.rmdir; rw [HP.out]; simp [Res.bind, stopB, Hi.out, Hk.out, hc, Res.run])
      have hct := fun W nb S2 hW => dirCount_any W nb S2 s.n hW xi
      generalize s.n.count xi = cc at hct hc
      go_enter Tryz.func45, Tryz.ntmps45
      go_wp2_with fail
      refine hpl.mono ?_
      clear hpl
      rintro e W2 ⟨hB2, rfl⟩
      have t2 := below_at hB2 t0 (cell_lt t0)
      have p2 := below_at hB2 p0 (cell_lt p0)
      have k2 := below_at hB2 k0 (cell_lt k0)
      have HT2 := H.out.below' hB2
      simp only [spotV]
      obtain ⟨W4, hW4⟩ : ∃ W4, W4 = W2.alloc (.cells #[.int .i64 xd, .string (bs xn), .int .i64 (xi)] 75) := ⟨_, rfl⟩
      have hB4 : Below W2.heap.size W2 W4 := by rw [hW4]; exact belC (Below.refl _ _)
      have x0 : W4.cell? ⟨W2.heap.size, 0, none⟩ = some (.int .i64 xd) := by rw [hW4]; go_simp
      have x1 : W4.cell? ⟨W2.heap.size, 1, none⟩ = some (.string (bs xn)) := by rw [hW4]; go_simp
      have x2 : W4.cell? ⟨W2.heap.size, 2, none⟩ = some (.int .i64 (xi)) := by rw [hW4]; go_simp
      have t4 := below_at hB4 t2 (cell_lt t2)
      have p4 := below_at hB4 p2 (cell_lt p2)
      have k4 := below_at hB4 k2 (cell_lt k2)
      have nx : ¬ S W2.heap.size := fun hk => by have := HT2.lt _ hk; omega
      have HT4 := Lib.hid (HT2.below' hB4)
      have HM4 := Lib.hid (Mod.of_below (F := S) (hB2.trans (hB4.mono hB2.size)))
      have HW4 := Lib.hid hW4
      clear HT2 hB4 hW4 t2 p2 k2 hB2
      go_wp2_with fail
      rw [← HW4.out]
      refine (hno _ _).mono ?_
      rintro e w9 ⟨rfl, rfl⟩
      go_wp2_with fail
      refine (hkd2 _ HT4.out).mono ?_
      rintro e w5 ⟨rfl, hB5⟩
      have t5 := below_at hB5 t4 (cell_lt t4)
      have y0 := below_at hB5 x0 (cell_lt x0)
      have y1 := below_at hB5 x1 (cell_lt x1)
      have y2 := below_at hB5 x2 (cell_lt x2)
      have HT5 := Lib.hid (HT4.out.below' hB5)
      have HM5 := Lib.hid (HM4.out.trans (Mod.of_below (F := S) hB5))
      clear hB5
      go_wp2_with fail
      refine (hno _ _).mono ?_
      rintro e w9 ⟨rfl, rfl⟩
      go_wp2_with fail
      obtain ⟨sb, lt, ib, nb, S1, S2, c0, c1, ht, hn, s1, s2, dd, b1, b2⟩ := HT5.out
      have hBd : Below w9.heap.size w9 w9.drew := by exact belC (Below.refl _ _)
      have hct2 := hct w9.drew nb S2 (hn.below' hBd)
      have hKd : w9.drew.cell? ⟨tb, 0, none⟩ = some (.pointer (some ⟨b, 0, none⟩)) ∧ w9.drew.cell? ⟨b, 1, none⟩ = some (.pointer (some ⟨nb, 0, none⟩)) ∧ w9.drew.cell? ⟨W2.heap.size, 2, none⟩ = some (.int .i64 xi) := ⟨t5, c1, y2⟩
      clear ht hn s1 s2 dd lt sb c0 b1 b2 hct
      refine wp_region_held_drew (S := fun W' => W'.cell? ⟨tb, 0, none⟩ = some (.pointer (some ⟨b, 0, none⟩)) ∧ W'.cell? ⟨b, 1, none⟩ = some (.pointer (some ⟨nb, 0, none⟩)) ∧ W'.cell? ⟨W2.heap.size, 2, none⟩ = some (.int .i64 xi)) (by kernel_rfl) hKd (fun hHeld => ?_)
      refine takeL 0 ?_
      refine takeL 1 ?_
      refine takeL 2 ?_
      refine takeL 3 ?_
      refine takeL 4 ?_
      refine takeL 5 ?_
      refine wpAnyH_ready (rs := [6]) (by kernel_rfl) (by simp) ?_
      refine AllReadyH.cons (o := _) rfl (fun K hK => ?_) AllReadyH.nil
      go_simp
      go_at_call 47
      with_reducible refine hct2.mono ?_
      clear hct2
      rintro e w7 ⟨rfl, rfl⟩
      try go_wp2_with fail
      refine hK.out _ _ ⟨hKd.1, hKd.2.1, hKd.2.2⟩ (fun hHeld => ?_)
      clear hK K
      try simp only [Act.put, List.setIfInBounds_toArray, List.set_cons_zero, List.set_cons_succ]
      refine takeL 7 ?_
      refine wpAnyH_ready (rs := [8]) (by kernel_rfl) (by simp) ?_
      refine AllReadyH.cons (o := _) rfl (fun K hK => ?_) AllReadyH.nil
      go_simp
      go_at_call 41
      with_reducible refine (hys _ _).mono ?_
      rintro e w9b ⟨rfl, rfl⟩
      go_wp2_with fail
      exact ⟨rfl, Or.inr ⟨_, rfl, by rw [HE.out], by rw [HE.out]; exact HT5.out.below' (by exact belC (Below.refl _ _)), HM5.out.drew⟩⟩
    · have HE := Lib.hid (show r = (0, s.drop ⟨xd, xn, xi⟩) by rw [HR.out]; unfold TrS.rmdir; rw [HP.out]; simp [Res.bind, stopB, Hi.out, Hk.out, hc, Res.run])
      have hct := fun W nb S2 hW => dirCount_any W nb S2 s.n hW xi
      generalize s.n.count xi = cc at hct hc
      go_enter Tryz.func45, Tryz.ntmps45
      go_wp2_with fail
      refine hpl.mono ?_
      clear hpl
      rintro e W2 ⟨hB2, rfl⟩
      have t2 := below_at hB2 t0 (cell_lt t0)
      have p2 := below_at hB2 p0 (cell_lt p0)
      have k2 := below_at hB2 k0 (cell_lt k0)
      have HT2 := H.out.below' hB2
      simp only [spotV]
      obtain ⟨W4, hW4⟩ : ∃ W4, W4 = W2.alloc (.cells #[.int .i64 xd, .string (bs xn), .int .i64 (xi)] 75) := ⟨_, rfl⟩
      have hB4 : Below W2.heap.size W2 W4 := by rw [hW4]; exact belC (Below.refl _ _)
      have x0 : W4.cell? ⟨W2.heap.size, 0, none⟩ = some (.int .i64 xd) := by rw [hW4]; go_simp
      have x1 : W4.cell? ⟨W2.heap.size, 1, none⟩ = some (.string (bs xn)) := by rw [hW4]; go_simp
      have x2 : W4.cell? ⟨W2.heap.size, 2, none⟩ = some (.int .i64 (xi)) := by rw [hW4]; go_simp
      have t4 := below_at hB4 t2 (cell_lt t2)
      have p4 := below_at hB4 p2 (cell_lt p2)
      have k4 := below_at hB4 k2 (cell_lt k2)
      have nx : ¬ S W2.heap.size := fun hk => by have := HT2.lt _ hk; omega
      have HT4 := Lib.hid (HT2.below' hB4)
      have HM4 := Lib.hid (Mod.of_below (F := S) (hB2.trans (hB4.mono hB2.size)))
      have HW4 := Lib.hid hW4
      clear HT2 hB4 hW4 t2 p2 k2 hB2
      go_wp2_with fail
      rw [← HW4.out]
      refine (hno _ _).mono ?_
      rintro e w9 ⟨rfl, rfl⟩
      go_wp2_with fail
      refine (hkd2 _ HT4.out).mono ?_
      rintro e w5 ⟨rfl, hB5⟩
      have t5 := below_at hB5 t4 (cell_lt t4)
      have y0 := below_at hB5 x0 (cell_lt x0)
      have y1 := below_at hB5 x1 (cell_lt x1)
      have y2 := below_at hB5 x2 (cell_lt x2)
      have HT5 := Lib.hid (HT4.out.below' hB5)
      have HM5 := Lib.hid (HM4.out.trans (Mod.of_below (F := S) hB5))
      clear hB5
      go_wp2_with fail
      refine (hno _ _).mono ?_
      rintro e w9 ⟨rfl, rfl⟩
      go_wp2_with fail
      obtain ⟨sb, lt, ib, nb, S1, S2, c0, c1, ht, hn, s1, s2, dd, b1, b2⟩ := HT5.out
      have hBd : Below w9.heap.size w9 w9.drew := by exact belC (Below.refl _ _)
      have hct2 := hct w9.drew nb S2 (hn.below' hBd)
      have hKd : w9.drew.cell? ⟨tb, 0, none⟩ = some (.pointer (some ⟨b, 0, none⟩)) ∧ w9.drew.cell? ⟨b, 1, none⟩ = some (.pointer (some ⟨nb, 0, none⟩)) ∧ w9.drew.cell? ⟨W2.heap.size, 2, none⟩ = some (.int .i64 xi) := ⟨t5, c1, y2⟩
      clear ht hn s1 s2 dd lt sb c0 b1 b2 hct
      refine wp_region_held_drew (S := fun W' => W'.cell? ⟨tb, 0, none⟩ = some (.pointer (some ⟨b, 0, none⟩)) ∧ W'.cell? ⟨b, 1, none⟩ = some (.pointer (some ⟨nb, 0, none⟩)) ∧ W'.cell? ⟨W2.heap.size, 2, none⟩ = some (.int .i64 xi)) (by kernel_rfl) hKd (fun hHeld => ?_)
      refine takeL 0 ?_
      refine takeL 1 ?_
      refine takeL 2 ?_
      refine takeL 3 ?_
      refine takeL 4 ?_
      refine takeL 5 ?_
      refine wpAnyH_ready (rs := [6]) (by kernel_rfl) (by simp) ?_
      refine AllReadyH.cons (o := _) rfl (fun K hK => ?_) AllReadyH.nil
      go_simp
      go_at_call 47
      with_reducible refine hct2.mono ?_
      clear hct2
      rintro e w7 ⟨rfl, rfl⟩
      try go_wp2_with fail
      refine hK.out _ _ ⟨hKd.1, hKd.2.1, hKd.2.2⟩ (fun hHeld => ?_)
      clear hK K
      try simp only [Act.put, List.setIfInBounds_toArray, List.set_cons_zero, List.set_cons_succ]
      refine takeL 7 ?_
      refine wpAnyH_ready (rs := [8]) (by kernel_rfl) (by simp) ?_
      refine AllReadyH.cons (o := _) rfl (fun K hK => ?_) AllReadyH.nil
      go_simp
      go_at_call 41
      rw [show decide (0 < cc) = false from decide_eq_false (by omega)]
      with_reducible refine (hno _ _).mono ?_
      rintro e w9b ⟨rfl, rfl⟩
      try go_wp2_with fail
      refine hK.out _ _ ⟨hKd.1, hKd.2.1, hKd.2.2⟩ (fun hHeld => ?_)
      clear hK K
      try simp only [Act.put, List.setIfInBounds_toArray, List.set_cons_zero, List.set_cons_succ]
      refine wpAnyH_done (by kernel_rfl) ?_ _
      go_wp2_with fail
      have hdr2 := trDrop_any w9.drew b S s (HT5.out.below' (by exact belC (Below.refl _ _))) hok ⟨xd, xn, xi⟩
      simp only [spotV] at hdr2
      refine hdr2.mono ?_
      clear hdr2
      rintro e w12 ⟨rfl, hT12, hM12⟩
      go_wp2_with fail
      go_end0
      exact Or.inl ⟨rfl, by rw [HE.out], by rw [HE.out]; exact hT12, HM5.out.drew.trans hM12⟩
set_option maxRecDepth 100000 in
set_option maxHeartbeats 2000000 in
theorem trRmdir_any (w : World) (b : Nat) (S : Nat → Prop) (s : TrS) (h : TreeAt w b S s) (hok : s.ok) (p : Nm) :
    Calls Tryz.prog 15 #[.pointer (some ⟨b, 0, none⟩), .string (bs p)] w (ErrPost w b S ((s.rmdir p).run s)) := by
  have hmf : ∀ (fn : Fn) (first cap : Array Value) (w : World), (Instr.makeFunc fn first cap).run Tryz.prog w = .ok (.func fn first cap) w := fun _ _ _ _ => rfl
  obtain ⟨W1, hW1⟩ : ∃ W1, W1 = (w.alloc (.cells #[.pointer (some ⟨b, 0, none⟩)] 23)).alloc (.cells #[.string (bs p)] 9) := ⟨_, rfl⟩
  have hB1 : Below w.heap.size w W1 := by rw [hW1]; exact belC (Below.refl _ _)
  have hz1 : W1.heap.size = w.heap.size + 2 := by rw [hW1]; simp
  have hns : ∀ k, w.heap.size ≤ k → ¬ S k := fun k hk hs => by have := h.lt k hs; omega
  have hs1 : ¬ S W1.heap.size := hns _ (by omega)
  have hBe : Below w.heap.size w (W1.alloc (.cells #[.int .i64 0] 27)) := by exact belC hB1
  have hdo := rmdir1_any (W1.alloc (.cells #[.int .i64 0] 27)) b w.heap.size (w.heap.size + 1) S s (h.below' hBe) hok p (by rw [hW1]; go_simp) (by rw [hW1]; go_simp)
  have HM1 := Lib.hid (Mod.of_below (F := S) hB1)
  have HW1 := Lib.hid hW1
  obtain ⟨r, hr⟩ : ∃ r, r = (s.rmdir p).run s := ⟨_, rfl⟩
  rw [← hr] at hdo ⊢
  clear hr hB1 hW1 hBe h hz1 hns hok
  go_enter Tryz.func15, Tryz.ntmps15
  go_wp2_with fail
  rw [← HW1.out]
  refine (tries_tree W1 b 45 _ S r hs1 (enters_of Tryz.func45 (by kernel_rfl) rfl) hdo).mono ?_
  clear hdo
  rintro e W2 ⟨rfl, hT2, hM2⟩
  go_wp2_with fail
  go_ret
  exact ⟨rfl, hT2, HM1.out.trans hM2⟩
set_option maxRecDepth 100000 in
set_option maxHeartbeats 4000000 in
theorem unlink1_any (W : World) (b tb pb : Nat) (S : Nat → Prop) (s : TrS) (h : TreeAt W b S s) (hok : s.ok) (p : Nm)
    (t0 : W.cell? ⟨tb, 0, none⟩ = some (.pointer (some ⟨b, 0, none⟩))) (p0 : W.cell? ⟨pb, 0, none⟩ = some (.string (bs p))) :
    Calls Tryz.prog 58 #[.pointer (some ⟨tb, 0, none⟩), .pointer (some ⟨pb, 0, none⟩)] W (DoPost (ChgR W b S ((s.unlink p).run s))) := by
  have hpl := trPlace_any W b S s h p 70
  have hno := stop_no
  have hys := stop_yes
  have k0 := p0
  have hkd := fun W hW d => trKind_any W b S s hW d
  have H := Lib.hid h
  obtain ⟨r, hr⟩ : ∃ r, r = (s.unlink p).run s := ⟨_, rfl⟩
  rw [← hr]
  have HR := Lib.hid hr
  clear h hr
  cases hp : s.place p 70 with
  | err x =>
    rw [hp] at hpl
    have HE := Lib.hid (show r = (x, s) by rw [HR.out]; unfold TrS.unlink; rw [hp]; rfl)
    clear hp
    go_enter Tryz.func58, Tryz.ntmps58
    go_wp2_with fail
    refine hpl.mono ?_
    rintro e W2 ⟨hB2, rfl⟩
    go_wp2_with fail
    exact ⟨rfl, Or.inr ⟨x, rfl, by rw [HE.out], by rw [HE.out]; exact H.out.below' hB2, Mod.of_below hB2⟩⟩
  | ok x =>
    rw [hp] at hpl
    obtain ⟨xd, xn, xi⟩ := x
    have HP := Lib.hid hp
    clear hp
    by_cases hi : xi = 0
    · subst hi
      have HE := Lib.hid (show r = (60, s) by rw [HR.out]; unfold TrS.unlink; rw [HP.out]; simp [Res.bind, stopB, Res.run])
      go_enter Tryz.func58, Tryz.ntmps58
      go_wp2_with fail
      refine hpl.mono ?_
      clear hpl
      rintro e W2 ⟨hB2, rfl⟩
      have t2 := below_at hB2 t0 (cell_lt t0)
      have p2 := below_at hB2 p0 (cell_lt p0)
      have k2 := below_at hB2 k0 (cell_lt k0)
      have HT2 := H.out.below' hB2
      simp only [spotV]
      obtain ⟨W4, hW4⟩ : ∃ W4, W4 = W2.alloc (.cells #[.int .i64 xd, .string (bs xn), .int .i64 (0)] 75) := ⟨_, rfl⟩
      have hB4 : Below W2.heap.size W2 W4 := by rw [hW4]; exact belC (Below.refl _ _)
      have x0 : W4.cell? ⟨W2.heap.size, 0, none⟩ = some (.int .i64 xd) := by rw [hW4]; go_simp
      have x1 : W4.cell? ⟨W2.heap.size, 1, none⟩ = some (.string (bs xn)) := by rw [hW4]; go_simp
      have x2 : W4.cell? ⟨W2.heap.size, 2, none⟩ = some (.int .i64 (0)) := by rw [hW4]; go_simp
      have t4 := below_at hB4 t2 (cell_lt t2)
      have p4 := below_at hB4 p2 (cell_lt p2)
      have k4 := below_at hB4 k2 (cell_lt k2)
      have nx : ¬ S W2.heap.size := fun hk => by have := HT2.lt _ hk; omega
      have HT4 := Lib.hid (HT2.below' hB4)
      have HM4 := Lib.hid (Mod.of_below (F := S) (hB2.trans (hB4.mono hB2.size)))
      have HW4 := Lib.hid hW4
      clear HT2 hB4 hW4 t2 p2 k2 hB2
      go_wp2_with fail
      rw [← HW4.out]
      refine (hys _ _).mono ?_
      rintro e w9 ⟨rfl, rfl⟩
      go_wp2_with fail
      exact ⟨rfl, Or.inr ⟨_, rfl, by rw [HE.out], by rw [HE.out]; exact HT4.out, HM4.out⟩⟩
    have hi2 : (xi == 0) = false := by simpa using hi
    have Hi := Lib.hid hi
    have hkd2 := fun W hW => hkd W hW xi
    clear hkd hi
    by_cases hk : s.kind xi = 1
    · have HE := Lib.hid (show r = (63, s) by rw [HR.out]; unfold TrS.unlink; rw [HP.out]; simp [Res.bind, stopB, Hi.out, hk, Res.run])
      rw [hk] at hkd2
      clear hk
      go_enter Tryz.func58, Tryz.ntmps58
      go_wp2_with fail
      refine hpl.mono ?_
      clear hpl
      rintro e W2 ⟨hB2, rfl⟩
      have t2 := below_at hB2 t0 (cell_lt t0)
      have p2 := below_at hB2 p0 (cell_lt p0)
      have k2 := below_at hB2 k0 (cell_lt k0)
      have HT2 := H.out.below' hB2
      simp only [spotV]
      obtain ⟨W4, hW4⟩ : ∃ W4, W4 = W2.alloc (.cells #[.int .i64 xd, .string (bs xn), .int .i64 (xi)] 75) := ⟨_, rfl⟩
      have hB4 : Below W2.heap.size W2 W4 := by rw [hW4]; exact belC (Below.refl _ _)
      have x0 : W4.cell? ⟨W2.heap.size, 0, none⟩ = some (.int .i64 xd) := by rw [hW4]; go_simp
      have x1 : W4.cell? ⟨W2.heap.size, 1, none⟩ = some (.string (bs xn)) := by rw [hW4]; go_simp
      have x2 : W4.cell? ⟨W2.heap.size, 2, none⟩ = some (.int .i64 (xi)) := by rw [hW4]; go_simp
      have t4 := below_at hB4 t2 (cell_lt t2)
      have p4 := below_at hB4 p2 (cell_lt p2)
      have k4 := below_at hB4 k2 (cell_lt k2)
      have nx : ¬ S W2.heap.size := fun hk => by have := HT2.lt _ hk; omega
      have HT4 := Lib.hid (HT2.below' hB4)
      have HM4 := Lib.hid (Mod.of_below (F := S) (hB2.trans (hB4.mono hB2.size)))
      have HW4 := Lib.hid hW4
      clear HT2 hB4 hW4 t2 p2 k2 hB2
      go_wp2_with fail
      rw [← HW4.out]
      refine (hno _ _).mono ?_
      rintro e w9 ⟨rfl, rfl⟩
      go_wp2_with fail
      refine (hkd2 _ HT4.out).mono ?_
      rintro e w5 ⟨rfl, hB5⟩
      have t5 := below_at hB5 t4 (cell_lt t4)
      have y0 := below_at hB5 x0 (cell_lt x0)
      have y1 := below_at hB5 x1 (cell_lt x1)
      have y2 := below_at hB5 x2 (cell_lt x2)
      have HT5 := Lib.hid (HT4.out.below' hB5)
      have HM5 := Lib.hid (HM4.out.trans (Mod.of_below (F := S) hB5))
      clear hB5
      go_wp2_with fail
      refine (hys _ _).mono ?_
      rintro e w9 ⟨rfl, rfl⟩
      go_wp2_with fail
      exact ⟨rfl, Or.inr ⟨_, rfl, by rw [HE.out], by rw [HE.out]; exact HT5.out, HM5.out⟩⟩
    · have HE := Lib.hid (show r = (0, s.drop ⟨xd, xn, xi⟩) by rw [HR.out]; unfold TrS.unlink; rw [HP.out]; simp [Res.bind, stopB, Hi.out, hk, Res.run])
      have hk2 : (s.kind xi == 1) = false := by simpa using hk
      generalize s.kind xi = kk at hkd2 hk2
      clear hk
      go_enter Tryz.func58, Tryz.ntmps58
      go_wp2_with fail
      refine hpl.mono ?_
      clear hpl
      rintro e W2 ⟨hB2, rfl⟩
      have t2 := below_at hB2 t0 (cell_lt t0)
      have p2 := below_at hB2 p0 (cell_lt p0)
      have k2 := below_at hB2 k0 (cell_lt k0)
      have HT2 := H.out.below' hB2
      simp only [spotV]
      obtain ⟨W4, hW4⟩ : ∃ W4, W4 = W2.alloc (.cells #[.int .i64 xd, .string (bs xn), .int .i64 (xi)] 75) := ⟨_, rfl⟩
      have hB4 : Below W2.heap.size W2 W4 := by rw [hW4]; exact belC (Below.refl _ _)
      have x0 : W4.cell? ⟨W2.heap.size, 0, none⟩ = some (.int .i64 xd) := by rw [hW4]; go_simp
      have x1 : W4.cell? ⟨W2.heap.size, 1, none⟩ = some (.string (bs xn)) := by rw [hW4]; go_simp
      have x2 : W4.cell? ⟨W2.heap.size, 2, none⟩ = some (.int .i64 (xi)) := by rw [hW4]; go_simp
      have t4 := below_at hB4 t2 (cell_lt t2)
      have p4 := below_at hB4 p2 (cell_lt p2)
      have k4 := below_at hB4 k2 (cell_lt k2)
      have nx : ¬ S W2.heap.size := fun hk => by have := HT2.lt _ hk; omega
      have HT4 := Lib.hid (HT2.below' hB4)
      have HM4 := Lib.hid (Mod.of_below (F := S) (hB2.trans (hB4.mono hB2.size)))
      have HW4 := Lib.hid hW4
      clear HT2 hB4 hW4 t2 p2 k2 hB2
      go_wp2_with fail
      rw [← HW4.out]
      refine (hno _ _).mono ?_
      rintro e w9 ⟨rfl, rfl⟩
      go_wp2_with fail
      refine (hkd2 _ HT4.out).mono ?_
      rintro e w5 ⟨rfl, hB5⟩
      have t5 := below_at hB5 t4 (cell_lt t4)
      have y0 := below_at hB5 x0 (cell_lt x0)
      have y1 := below_at hB5 x1 (cell_lt x1)
      have y2 := below_at hB5 x2 (cell_lt x2)
      have HT5 := Lib.hid (HT4.out.below' hB5)
      have HM5 := Lib.hid (HM4.out.trans (Mod.of_below (F := S) hB5))
      clear hB5
      go_wp2_with fail
      refine (hno _ _).mono ?_
      rintro e w9 ⟨rfl, rfl⟩
      go_wp2_with fail
      have hdr2 := trDrop_any w9 b S s HT5.out hok ⟨xd, xn, xi⟩
      simp only [spotV] at hdr2
      refine hdr2.mono ?_
      clear hdr2
      rintro e w12 ⟨rfl, hT12, hM12⟩
      go_wp2_with fail
      go_end0
      exact Or.inl ⟨rfl, by rw [HE.out], by rw [HE.out]; exact hT12, HM5.out.trans hM12⟩
set_option maxRecDepth 100000 in
set_option maxHeartbeats 2000000 in
theorem trUnlink_any (w : World) (b : Nat) (S : Nat → Prop) (s : TrS) (h : TreeAt w b S s) (hok : s.ok) (p : Nm) :
    Calls Tryz.prog 23 #[.pointer (some ⟨b, 0, none⟩), .string (bs p)] w (ErrPost w b S ((s.unlink p).run s)) := by
  have hmf : ∀ (fn : Fn) (first cap : Array Value) (w : World), (Instr.makeFunc fn first cap).run Tryz.prog w = .ok (.func fn first cap) w := fun _ _ _ _ => rfl
  obtain ⟨W1, hW1⟩ : ∃ W1, W1 = (w.alloc (.cells #[.pointer (some ⟨b, 0, none⟩)] 23)).alloc (.cells #[.string (bs p)] 9) := ⟨_, rfl⟩
  have hB1 : Below w.heap.size w W1 := by rw [hW1]; exact belC (Below.refl _ _)
  have hz1 : W1.heap.size = w.heap.size + 2 := by rw [hW1]; simp
  have hns : ∀ k, w.heap.size ≤ k → ¬ S k := fun k hk hs => by have := h.lt k hs; omega
  have hs1 : ¬ S W1.heap.size := hns _ (by omega)
  have hBe : Below w.heap.size w (W1.alloc (.cells #[.int .i64 0] 27)) := by exact belC hB1
  have hdo := unlink1_any (W1.alloc (.cells #[.int .i64 0] 27)) b w.heap.size (w.heap.size + 1) S s (h.below' hBe) hok p (by rw [hW1]; go_simp) (by rw [hW1]; go_simp)
  have HM1 := Lib.hid (Mod.of_below (F := S) hB1)
  have HW1 := Lib.hid hW1
  obtain ⟨r, hr⟩ : ∃ r, r = (s.unlink p).run s := ⟨_, rfl⟩
  rw [← hr] at hdo ⊢
  clear hr hB1 hW1 hBe h hz1 hns hok
  go_enter Tryz.func23, Tryz.ntmps23
  go_wp2_with fail
  rw [← HW1.out]
  refine (tries_tree W1 b 58 _ S r hs1 (enters_of Tryz.func58 (by kernel_rfl) rfl) hdo).mono ?_
  clear hdo
  rintro e W2 ⟨rfl, hT2, hM2⟩
  go_wp2_with fail
  go_ret
  exact ⟨rfl, hT2, HM1.out.trans hM2⟩
end Go.Proofs.YtakbalmbkokklaaGreat
/- package tree: Link -/
namespace Go.Proofs.YtakbalmbkokklaaGreat
open Go.RowKit Esch Go.Shelf

set_option maxRecDepth 100000 in
set_option maxHeartbeats 4000000 in
theorem link1_any (W : World) (b tb pb qb : Nat) (S : Nat → Prop) (s : TrS) (h : TreeAt W b S s) (hok : s.ok) (p q : Nm)
    (t0 : W.cell? ⟨tb, 0, none⟩ = some (.pointer (some ⟨b, 0, none⟩))) (p0 : W.cell? ⟨pb, 0, none⟩ = some (.string (bs p))) (q0 : W.cell? ⟨qb, 0, none⟩ = some (.string (bs q))) :
    Calls Tryz.prog 53 #[.pointer (some ⟨tb, 0, none⟩), .pointer (some ⟨pb, 0, none⟩), .pointer (some ⟨qb, 0, none⟩)] W (DoPost (ChgR W b S ((s.lnk p q).run s))) := by
  have hrs := trResolve_any W b S s h p
  have hpl := fun W' hW => trPlace_any W' b S s hW q 61
  have hno := stop_no
  have hys := stop_yes
  have HT := Lib.hid h
  obtain ⟨r, hr⟩ : ∃ r, r = (s.lnk p q).run s := ⟨_, rfl⟩
  rw [← hr]
  have HR := Lib.hid hr
  clear h hr
  cases hp : s.resolve p with
  | err e =>
    rw [hp] at hrs
    have HE := Lib.hid (show r = (e, s) by rw [HR.out]; unfold TrS.lnk; rw [hp]; rfl)
    clear hp hpl
    go_enter Tryz.func53, Tryz.ntmps53
    have HM := Lib.hid (Mod.refl S W)
    go_wp2_with fail
    refine hrs.mono ?_
    clear hrs
    rintro e W2 ⟨hB5, rfl⟩
    go_wp2_with fail
    exact ⟨rfl, Or.inr ⟨_, rfl, by rw [HE.out], by rw [HE.out]; exact HT.out.below' hB5, HM.out.trans (Mod.of_below (F := S) hB5)⟩⟩
  | ok i =>
  rw [hp] at hrs
  have HP := Lib.hid hp
  clear hp
  have hkd2 := fun W hW => trKind_any W b S s hW i
  by_cases hk : s.kind i = 1
  · have HE := Lib.hid (show r = (63, s) by rw [HR.out]; unfold TrS.lnk; rw [HP.out]; simp [Res.bind, stopB, hk, Res.run])
    rw [hk] at hkd2
    clear hk hpl
    go_enter Tryz.func53, Tryz.ntmps53
    have HM := Lib.hid (Mod.refl S W)
    go_wp2_with fail
    refine hrs.mono ?_
    clear hrs
    rintro e W2 ⟨hB5, rfl⟩
    have t1 := below_at hB5 t0 (cell_lt t0)
    have p1 := below_at hB5 p0 (cell_lt p0)
    have q1 := below_at hB5 q0 (cell_lt q0)
    have HT := Lib.hid (HT.out.below' hB5)
    have HM := Lib.hid (HM.out.trans (Mod.of_below (F := S) hB5))
    clear t0 p0 q0 hB5
    have t0 := t1
    have p0 := p1
    have q0 := q1
    clear t1 p1 q1
    go_wp2_with fail
    refine (hkd2 _ HT.out).mono ?_
    rintro e W3 ⟨rfl, hB5⟩
    have t1 := below_at hB5 t0 (cell_lt t0)
    have p1 := below_at hB5 p0 (cell_lt p0)
    have q1 := below_at hB5 q0 (cell_lt q0)
    have HT := Lib.hid (HT.out.below' hB5)
    have HM := Lib.hid (HM.out.trans (Mod.of_below (F := S) hB5))
    clear t0 p0 q0 hB5
    have t0 := t1
    have p0 := p1
    have q0 := q1
    clear t1 p1 q1
    go_wp2_with fail
    refine (hys _ _).mono ?_
    rintro e w9 ⟨rfl, rfl⟩
    go_wp2_with fail
    exact ⟨rfl, Or.inr ⟨_, rfl, by rw [HE.out], by rw [HE.out]; exact HT.out, HM.out⟩⟩
  have hk2 : (s.kind i == 1) = false := by simpa using hk
  have Hk := Lib.hid hk
  clear hk
  have hst2 := fun W ib S1 hW => inoStat_any W ib S1 s.t hW i
  generalize s.kind i = kk at hkd2 hk2
  obtain ⟨⟨y0, y1, y2, y3, y4⟩, hy⟩ : ∃ y, y = s.t.at i := ⟨_, rfl⟩
  rw [← hy] at hst2
  simp only [statV] at hst2
  have HY := Lib.hid hy
  generalize s.t.has i = yb at hst2
  clear hy
  cases hq : s.place q 61 with
  | err e =>
    rw [hq] at hpl
    have HE := Lib.hid (show r = (e, s) by rw [HR.out]; unfold TrS.lnk; rw [HP.out, hq]; simp [Res.bind, stopB, Hk.out, Res.run])
    clear hq hst2
    go_enter Tryz.func53, Tryz.ntmps53
    have HM := Lib.hid (Mod.refl S W)
    go_wp2_with fail
    refine hrs.mono ?_
    clear hrs
    rintro e W2 ⟨hB5, rfl⟩
    have t1 := below_at hB5 t0 (cell_lt t0)
    have p1 := below_at hB5 p0 (cell_lt p0)
    have q1 := below_at hB5 q0 (cell_lt q0)
    have HT := Lib.hid (HT.out.below' hB5)
    have HM := Lib.hid (HM.out.trans (Mod.of_below (F := S) hB5))
    clear t0 p0 q0 hB5
    have t0 := t1
    have p0 := p1
    have q0 := q1
    clear t1 p1 q1
    go_wp2_with fail
    refine (hkd2 _ HT.out).mono ?_
    rintro e W3 ⟨rfl, hB5⟩
    have t1 := below_at hB5 t0 (cell_lt t0)
    have p1 := below_at hB5 p0 (cell_lt p0)
    have q1 := below_at hB5 q0 (cell_lt q0)
    have HT := Lib.hid (HT.out.below' hB5)
    have HM := Lib.hid (HM.out.trans (Mod.of_below (F := S) hB5))
    clear t0 p0 q0 hB5
    have t0 := t1
    have p0 := p1
    have q0 := q1
    clear t1 p1 q1
    go_wp2_with fail
    refine (hno _ _).mono ?_
    rintro e w9 ⟨rfl, rfl⟩
    go_wp2_with fail
    refine (hpl _ HT.out).mono ?_
    clear hpl
    rintro e W5 ⟨hB5, rfl⟩
    go_wp2_with fail
    exact ⟨rfl, Or.inr ⟨_, rfl, by rw [HE.out], by rw [HE.out]; exact HT.out.below' hB5, HM.out.trans (Mod.of_below (F := S) hB5)⟩⟩
  | ok x =>
  rw [hq] at hpl
  obtain ⟨xd, xn, xi⟩ := x
  have HQ := Lib.hid hq
  clear hq
  by_cases hx : xi = 0
  rotate_left 1
  · have HE := Lib.hid (show r = (61, s) by rw [HR.out]; unfold TrS.lnk; rw [HP.out, HQ.out]; simp [Res.bind, stopB, Hk.out, hx, Res.run])
    have hx2 : (xi != 0) = true := by simpa using hx
    clear hx hst2
    go_enter Tryz.func53, Tryz.ntmps53
    have HM := Lib.hid (Mod.refl S W)
    go_wp2_with fail
    refine hrs.mono ?_
    clear hrs
    rintro e W2 ⟨hB5, rfl⟩
    have t1 := below_at hB5 t0 (cell_lt t0)
    have p1 := below_at hB5 p0 (cell_lt p0)
    have q1 := below_at hB5 q0 (cell_lt q0)
    have HT := Lib.hid (HT.out.below' hB5)
    have HM := Lib.hid (HM.out.trans (Mod.of_below (F := S) hB5))
    clear t0 p0 q0 hB5
    have t0 := t1
    have p0 := p1
    have q0 := q1
    clear t1 p1 q1
    go_wp2_with fail
    refine (hkd2 _ HT.out).mono ?_
    rintro e W3 ⟨rfl, hB5⟩
    have t1 := below_at hB5 t0 (cell_lt t0)
    have p1 := below_at hB5 p0 (cell_lt p0)
    have q1 := below_at hB5 q0 (cell_lt q0)
    have HT := Lib.hid (HT.out.below' hB5)
    have HM := Lib.hid (HM.out.trans (Mod.of_below (F := S) hB5))
    clear t0 p0 q0 hB5
    have t0 := t1
    have p0 := p1
    have q0 := q1
    clear t1 p1 q1
    go_wp2_with fail
    refine (hno _ _).mono ?_
    rintro e w9 ⟨rfl, rfl⟩
    go_wp2_with fail
    refine (hpl _ HT.out).mono ?_
    clear hpl
    rintro e W5 ⟨hB5, rfl⟩
    simp only [spotV]
    obtain ⟨W6, hW6⟩ : ∃ W6, W6 = W5.alloc (.cells #[.int .i64 xd, .string (bs xn), .int .i64 xi] 75) := ⟨_, rfl⟩
    have hB6 : Below W5.heap.size W5 W6 := by rw [hW6]; exact belC (Below.refl _ _)
    have hB56 := hB5.trans (hB6.mono hB5.size)
    have x0 : W6.cell? ⟨W5.heap.size, 0, none⟩ = some (.int .i64 xd) := by rw [hW6]; go_simp
    have x1 : W6.cell? ⟨W5.heap.size, 1, none⟩ = some (.string (bs xn)) := by rw [hW6]; go_simp
    have x2 : W6.cell? ⟨W5.heap.size, 2, none⟩ = some (.int .i64 xi) := by rw [hW6]; go_simp
    have HW6 := Lib.hid hW6
    have t1 := below_at hB56 t0 (cell_lt t0)
    have p1 := below_at hB56 p0 (cell_lt p0)
    have q1 := below_at hB56 q0 (cell_lt q0)
    have HT6 := Lib.hid (HT.out.below' hB56)
    have HM6 := Lib.hid (HM.out.trans (Mod.of_below (F := S) hB56))
    clear hW6 hB6 hB56
    go_wp2_with fail
    rw [← HW6.out]
    obtain ⟨xb, hxb⟩ : ∃ xb, xb = W5.heap.size := ⟨_, rfl⟩
    rw [← hxb] at x0 x1 x2 ⊢
    clear hxb HW6 t0 p0 q0 HT HM hB5
    have t0 := t1
    have p0 := p1
    have q0 := q1
    have HT := Lib.hid HT6.out
    have HM := Lib.hid HM6.out
    clear t1 p1 q1 HT6 HM6
    refine (hys _ _).mono ?_
    rintro e w9 ⟨rfl, rfl⟩
    go_wp2_with fail
    exact ⟨rfl, Or.inr ⟨_, rfl, by rw [HE.out], by rw [HE.out]; exact HT.out, HM.out⟩⟩
  have hx2 : (xi != 0) = false := by simpa using hx
  have Hx := Lib.hid hx
  clear hx
  have HL := Lib.hid (show (s.t.at i).links = y2 by rw [← HY.out])
  by_cases hl : 8 ≤ y2
  · have HE := Lib.hid (show r = (66, s) by rw [HR.out]; unfold TrS.lnk; rw [HP.out, HQ.out]; simp [Res.bind, stopB, Hk.out, Hx.out, HL.out, hl, Res.run])
    have hl2 : decide (y2 ≥ 8) = true := decide_eq_true hl
    go_enter Tryz.func53, Tryz.ntmps53
    have HM := Lib.hid (Mod.refl S W)
    go_wp2_with fail
    refine hrs.mono ?_
    clear hrs
    rintro e W2 ⟨hB5, rfl⟩
    have t1 := below_at hB5 t0 (cell_lt t0)
    have p1 := below_at hB5 p0 (cell_lt p0)
    have q1 := below_at hB5 q0 (cell_lt q0)
    have HT := Lib.hid (HT.out.below' hB5)
    have HM := Lib.hid (HM.out.trans (Mod.of_below (F := S) hB5))
    clear t0 p0 q0 hB5
    have t0 := t1
    have p0 := p1
    have q0 := q1
    clear t1 p1 q1
    go_wp2_with fail
    refine (hkd2 _ HT.out).mono ?_
    rintro e W3 ⟨rfl, hB5⟩
    have t1 := below_at hB5 t0 (cell_lt t0)
    have p1 := below_at hB5 p0 (cell_lt p0)
    have q1 := below_at hB5 q0 (cell_lt q0)
    have HT := Lib.hid (HT.out.below' hB5)
    have HM := Lib.hid (HM.out.trans (Mod.of_below (F := S) hB5))
    clear t0 p0 q0 hB5
    have t0 := t1
    have p0 := p1
    have q0 := q1
    clear t1 p1 q1
    go_wp2_with fail
    refine (hno _ _).mono ?_
    rintro e w9 ⟨rfl, rfl⟩
    go_wp2_with fail
    refine (hpl _ HT.out).mono ?_
    clear hpl
    rintro e W5 ⟨hB5, rfl⟩
    simp only [spotV]
    obtain ⟨W6, hW6⟩ : ∃ W6, W6 = W5.alloc (.cells #[.int .i64 xd, .string (bs xn), .int .i64 xi] 75) := ⟨_, rfl⟩
    have hB6 : Below W5.heap.size W5 W6 := by rw [hW6]; exact belC (Below.refl _ _)
    have hB56 := hB5.trans (hB6.mono hB5.size)
    have x0 : W6.cell? ⟨W5.heap.size, 0, none⟩ = some (.int .i64 xd) := by rw [hW6]; go_simp
    have x1 : W6.cell? ⟨W5.heap.size, 1, none⟩ = some (.string (bs xn)) := by rw [hW6]; go_simp
    have x2 : W6.cell? ⟨W5.heap.size, 2, none⟩ = some (.int .i64 xi) := by rw [hW6]; go_simp
    have HW6 := Lib.hid hW6
    have t1 := below_at hB56 t0 (cell_lt t0)
    have p1 := below_at hB56 p0 (cell_lt p0)
    have q1 := below_at hB56 q0 (cell_lt q0)
    have HT6 := Lib.hid (HT.out.below' hB56)
    have HM6 := Lib.hid (HM.out.trans (Mod.of_below (F := S) hB56))
    clear hW6 hB6 hB56
    go_wp2_with fail
    rw [← HW6.out]
    obtain ⟨xb, hxb⟩ : ∃ xb, xb = W5.heap.size := ⟨_, rfl⟩
    rw [← hxb] at x0 x1 x2 ⊢
    clear hxb HW6 t0 p0 q0 HT HM hB5
    have t0 := t1
    have p0 := p1
    have q0 := q1
    have HT := Lib.hid HT6.out
    have HM := Lib.hid HM6.out
    clear t1 p1 q1 HT6 HM6
    obtain ⟨sb, lt, ib, nb, S1, S2, c0, c1, ht, hn, s1, s2, dd, b1, b2⟩ := HT.out
    have hst3 := hst2 _ ib S1 ht
    clear ht hn s1 s2 dd lt sb c1 b2 b1 hst2
    refine (hno _ _).mono ?_
    rintro e w9 ⟨rfl, rfl⟩
    go_wp2_with fail
    refine hst3.mono ?_
    clear hst3
    rintro e W8 ⟨rfl, hB8⟩
    obtain ⟨W9, hW9⟩ : ∃ W9, W9 = W8.alloc (.cells #[.int .i64 y0, .int .i64 y1, .int .i64 y2, .int .i64 y4] 32) := ⟨_, rfl⟩
    have hB9 : Below W8.heap.size W8 W9 := by rw [hW9]; exact belC (Below.refl _ _)
    have z2 : W9.cell? ⟨W8.heap.size, 2, none⟩ = some (.int .i64 y2) := by rw [hW9]; go_simp
    have hB5 := hB8.trans (hB9.mono hB8.size)
    have HW9 := Lib.hid hW9
    clear hB8 hB9 hW9 c0
    go_wp2_with fail
    rw [← HW9.out]
    obtain ⟨zb, hzb⟩ : ∃ zb, zb = W8.heap.size := ⟨_, rfl⟩
    rw [← hzb] at z2 ⊢
    clear hzb HW9
    have x0a := below_at hB5 x0 (cell_lt x0)
    have x1a := below_at hB5 x1 (cell_lt x1)
    have x2a := below_at hB5 x2 (cell_lt x2)
    clear x0 x1 x2
    have x0 := x0a
    have x1 := x1a
    have x2 := x2a
    clear x0a x1a x2a
    have t1 := below_at hB5 t0 (cell_lt t0)
    have p1 := below_at hB5 p0 (cell_lt p0)
    have q1 := below_at hB5 q0 (cell_lt q0)
    have HT := Lib.hid (HT.out.below' hB5)
    have HM := Lib.hid (HM.out.trans (Mod.of_below (F := S) hB5))
    clear t0 p0 q0 hB5
    have t0 := t1
    have p0 := p1
    have q0 := q1
    clear t1 p1 q1
    go_wp2_with fail
    refine (hys _ _).mono ?_
    rintro e w9 ⟨rfl, rfl⟩
    go_wp2_with fail
    exact ⟨rfl, Or.inr ⟨_, rfl, by rw [HE.out], by rw [HE.out]; exact HT.out, HM.out⟩⟩
  have hl2 : decide (y2 ≥ 8) = false := decide_eq_false hl
  have Hl := Lib.hid hl
  have hfl := fun W' hW => trFull_any W' b S s hW xd
  by_cases hf : 64 ≤ s.n.count xd
  · have HE := Lib.hid (show r = (67, s) by rw [HR.out]; unfold TrS.lnk; rw [HP.out, HQ.out]; simp [Res.bind, stopB, Hk.out, Hx.out, HL.out, Hl.out, hf, Res.run])
    rw [decide_eq_true hf] at hfl
    clear hf hl
    go_enter Tryz.func53, Tryz.ntmps53
    have HM := Lib.hid (Mod.refl S W)
    go_wp2_with fail
    refine hrs.mono ?_
    clear hrs
    rintro e W2 ⟨hB5, rfl⟩
    have t1 := below_at hB5 t0 (cell_lt t0)
    have p1 := below_at hB5 p0 (cell_lt p0)
    have q1 := below_at hB5 q0 (cell_lt q0)
    have HT := Lib.hid (HT.out.below' hB5)
    have HM := Lib.hid (HM.out.trans (Mod.of_below (F := S) hB5))
    clear t0 p0 q0 hB5
    have t0 := t1
    have p0 := p1
    have q0 := q1
    clear t1 p1 q1
    go_wp2_with fail
    refine (hkd2 _ HT.out).mono ?_
    rintro e W3 ⟨rfl, hB5⟩
    have t1 := below_at hB5 t0 (cell_lt t0)
    have p1 := below_at hB5 p0 (cell_lt p0)
    have q1 := below_at hB5 q0 (cell_lt q0)
    have HT := Lib.hid (HT.out.below' hB5)
    have HM := Lib.hid (HM.out.trans (Mod.of_below (F := S) hB5))
    clear t0 p0 q0 hB5
    have t0 := t1
    have p0 := p1
    have q0 := q1
    clear t1 p1 q1
    go_wp2_with fail
    refine (hno _ _).mono ?_
    rintro e w9 ⟨rfl, rfl⟩
    go_wp2_with fail
    refine (hpl _ HT.out).mono ?_
    clear hpl
    rintro e W5 ⟨hB5, rfl⟩
    simp only [spotV]
    obtain ⟨W6, hW6⟩ : ∃ W6, W6 = W5.alloc (.cells #[.int .i64 xd, .string (bs xn), .int .i64 xi] 75) := ⟨_, rfl⟩
    have hB6 : Below W5.heap.size W5 W6 := by rw [hW6]; exact belC (Below.refl _ _)
    have hB56 := hB5.trans (hB6.mono hB5.size)
    have x0 : W6.cell? ⟨W5.heap.size, 0, none⟩ = some (.int .i64 xd) := by rw [hW6]; go_simp
    have x1 : W6.cell? ⟨W5.heap.size, 1, none⟩ = some (.string (bs xn)) := by rw [hW6]; go_simp
    have x2 : W6.cell? ⟨W5.heap.size, 2, none⟩ = some (.int .i64 xi) := by rw [hW6]; go_simp
    have HW6 := Lib.hid hW6
    have t1 := below_at hB56 t0 (cell_lt t0)
    have p1 := below_at hB56 p0 (cell_lt p0)
    have q1 := below_at hB56 q0 (cell_lt q0)
    have HT6 := Lib.hid (HT.out.below' hB56)
    have HM6 := Lib.hid (HM.out.trans (Mod.of_below (F := S) hB56))
    clear hW6 hB6 hB56
    go_wp2_with fail
    rw [← HW6.out]
    obtain ⟨xb, hxb⟩ : ∃ xb, xb = W5.heap.size := ⟨_, rfl⟩
    rw [← hxb] at x0 x1 x2 ⊢
    clear hxb HW6 t0 p0 q0 HT HM hB5
    have t0 := t1
    have p0 := p1
    have q0 := q1
    have HT := Lib.hid HT6.out
    have HM := Lib.hid HM6.out
    clear t1 p1 q1 HT6 HM6
    obtain ⟨sb, lt, ib, nb, S1, S2, c0, c1, ht, hn, s1, s2, dd, b1, b2⟩ := HT.out
    have hst3 := hst2 _ ib S1 ht
    clear ht hn s1 s2 dd lt sb c1 b2 b1 hst2
    refine (hno _ _).mono ?_
    rintro e w9 ⟨rfl, rfl⟩
    go_wp2_with fail
    refine hst3.mono ?_
    clear hst3
    rintro e W8 ⟨rfl, hB8⟩
    obtain ⟨W9, hW9⟩ : ∃ W9, W9 = W8.alloc (.cells #[.int .i64 y0, .int .i64 y1, .int .i64 y2, .int .i64 y4] 32) := ⟨_, rfl⟩
    have hB9 : Below W8.heap.size W8 W9 := by rw [hW9]; exact belC (Below.refl _ _)
    have z2 : W9.cell? ⟨W8.heap.size, 2, none⟩ = some (.int .i64 y2) := by rw [hW9]; go_simp
    have hB5 := hB8.trans (hB9.mono hB8.size)
    have HW9 := Lib.hid hW9
    clear hB8 hB9 hW9 c0
    go_wp2_with fail
    rw [← HW9.out]
    obtain ⟨zb, hzb⟩ : ∃ zb, zb = W8.heap.size := ⟨_, rfl⟩
    rw [← hzb] at z2 ⊢
    clear hzb HW9
    have x0a := below_at hB5 x0 (cell_lt x0)
    have x1a := below_at hB5 x1 (cell_lt x1)
    have x2a := below_at hB5 x2 (cell_lt x2)
    clear x0 x1 x2
    have x0 := x0a
    have x1 := x1a
    have x2 := x2a
    clear x0a x1a x2a
    have t1 := below_at hB5 t0 (cell_lt t0)
    have p1 := below_at hB5 p0 (cell_lt p0)
    have q1 := below_at hB5 q0 (cell_lt q0)
    have HT := Lib.hid (HT.out.below' hB5)
    have HM := Lib.hid (HM.out.trans (Mod.of_below (F := S) hB5))
    clear t0 p0 q0 hB5
    have t0 := t1
    have p0 := p1
    have q0 := q1
    clear t1 p1 q1
    go_wp2_with fail
    refine (hno _ _).mono ?_
    rintro e w9 ⟨rfl, rfl⟩
    go_wp2_with fail
    refine (hfl _ HT.out).mono ?_
    clear hfl
    rintro e w8 ⟨rfl, rfl⟩
    go_wp2_with fail
    refine (hys _ _).mono ?_
    rintro e w9 ⟨rfl, rfl⟩
    go_wp2_with fail
    exact ⟨rfl, Or.inr ⟨_, rfl, by rw [HE.out], by rw [HE.out]; exact HT.out, HM.out⟩⟩
  have HE := Lib.hid (show r = (0, s.add ⟨xd, xn, xi⟩ i) by rw [HR.out]; unfold TrS.lnk; rw [HP.out, HQ.out]; simp [Res.bind, stopB, Hk.out, Hx.out, HL.out, Hl.out, hf, Res.run])
  rw [decide_eq_false hf] at hfl
  clear hf hl
  go_enter Tryz.func53, Tryz.ntmps53
  have HM := Lib.hid (Mod.refl S W)
  go_wp2_with fail
  refine hrs.mono ?_
  clear hrs
  rintro e W2 ⟨hB5, rfl⟩
  have t1 := below_at hB5 t0 (cell_lt t0)
  have p1 := below_at hB5 p0 (cell_lt p0)
  have q1 := below_at hB5 q0 (cell_lt q0)
  have HT := Lib.hid (HT.out.below' hB5)
  have HM := Lib.hid (HM.out.trans (Mod.of_below (F := S) hB5))
  clear t0 p0 q0 hB5
  have t0 := t1
  have p0 := p1
  have q0 := q1
  clear t1 p1 q1
  go_wp2_with fail
  refine (hkd2 _ HT.out).mono ?_
  rintro e W3 ⟨rfl, hB5⟩
  have t1 := below_at hB5 t0 (cell_lt t0)
  have p1 := below_at hB5 p0 (cell_lt p0)
  have q1 := below_at hB5 q0 (cell_lt q0)
  have HT := Lib.hid (HT.out.below' hB5)
  have HM := Lib.hid (HM.out.trans (Mod.of_below (F := S) hB5))
  clear t0 p0 q0 hB5
  have t0 := t1
  have p0 := p1
  have q0 := q1
  clear t1 p1 q1
  go_wp2_with fail
  refine (hno _ _).mono ?_
  rintro e w9 ⟨rfl, rfl⟩
  go_wp2_with fail
  refine (hpl _ HT.out).mono ?_
  clear hpl
  rintro e W5 ⟨hB5, rfl⟩
  simp only [spotV]
  obtain ⟨W6, hW6⟩ : ∃ W6, W6 = W5.alloc (.cells #[.int .i64 xd, .string (bs xn), .int .i64 xi] 75) := ⟨_, rfl⟩
  have hB6 : Below W5.heap.size W5 W6 := by rw [hW6]; exact belC (Below.refl _ _)
  have hB56 := hB5.trans (hB6.mono hB5.size)
  have x0 : W6.cell? ⟨W5.heap.size, 0, none⟩ = some (.int .i64 xd) := by rw [hW6]; go_simp
  have x1 : W6.cell? ⟨W5.heap.size, 1, none⟩ = some (.string (bs xn)) := by rw [hW6]; go_simp
  have x2 : W6.cell? ⟨W5.heap.size, 2, none⟩ = some (.int .i64 xi) := by rw [hW6]; go_simp
  have HW6 := Lib.hid hW6
  have t1 := below_at hB56 t0 (cell_lt t0)
  have p1 := below_at hB56 p0 (cell_lt p0)
  have q1 := below_at hB56 q0 (cell_lt q0)
  have HT6 := Lib.hid (HT.out.below' hB56)
  have HM6 := Lib.hid (HM.out.trans (Mod.of_below (F := S) hB56))
  clear hW6 hB6 hB56
  go_wp2_with fail
  rw [← HW6.out]
  obtain ⟨xb, hxb⟩ : ∃ xb, xb = W5.heap.size := ⟨_, rfl⟩
  rw [← hxb] at x0 x1 x2 ⊢
  clear hxb HW6 t0 p0 q0 HT HM hB5
  have t0 := t1
  have p0 := p1
  have q0 := q1
  have HT := Lib.hid HT6.out
  have HM := Lib.hid HM6.out
  clear t1 p1 q1 HT6 HM6
  obtain ⟨sb, lt, ib, nb, S1, S2, c0, c1, ht, hn, s1, s2, dd, b1, b2⟩ := HT.out
  have hst3 := hst2 _ ib S1 ht
  clear ht hn s1 s2 dd lt sb c1 b2 b1 hst2
  refine (hno _ _).mono ?_
  rintro e w9 ⟨rfl, rfl⟩
  go_wp2_with fail
  refine hst3.mono ?_
  clear hst3
  rintro e W8 ⟨rfl, hB8⟩
  obtain ⟨W9, hW9⟩ : ∃ W9, W9 = W8.alloc (.cells #[.int .i64 y0, .int .i64 y1, .int .i64 y2, .int .i64 y4] 32) := ⟨_, rfl⟩
  have hB9 : Below W8.heap.size W8 W9 := by rw [hW9]; exact belC (Below.refl _ _)
  have z2 : W9.cell? ⟨W8.heap.size, 2, none⟩ = some (.int .i64 y2) := by rw [hW9]; go_simp
  have hB5 := hB8.trans (hB9.mono hB8.size)
  have HW9 := Lib.hid hW9
  clear hB8 hB9 hW9 c0
  go_wp2_with fail
  rw [← HW9.out]
  obtain ⟨zb, hzb⟩ : ∃ zb, zb = W8.heap.size := ⟨_, rfl⟩
  rw [← hzb] at z2 ⊢
  clear hzb HW9
  have x0a := below_at hB5 x0 (cell_lt x0)
  have x1a := below_at hB5 x1 (cell_lt x1)
  have x2a := below_at hB5 x2 (cell_lt x2)
  clear x0 x1 x2
  have x0 := x0a
  have x1 := x1a
  have x2 := x2a
  clear x0a x1a x2a
  have t1 := below_at hB5 t0 (cell_lt t0)
  have p1 := below_at hB5 p0 (cell_lt p0)
  have q1 := below_at hB5 q0 (cell_lt q0)
  have HT := Lib.hid (HT.out.below' hB5)
  have HM := Lib.hid (HM.out.trans (Mod.of_below (F := S) hB5))
  clear t0 p0 q0 hB5
  have t0 := t1
  have p0 := p1
  have q0 := q1
  clear t1 p1 q1
  go_wp2_with fail
  refine (hno _ _).mono ?_
  rintro e w9 ⟨rfl, rfl⟩
  go_wp2_with fail
  refine (hfl _ HT.out).mono ?_
  clear hfl
  rintro e w8 ⟨rfl, rfl⟩
  go_wp2_with fail
  refine (hno _ _).mono ?_
  rintro e w9 ⟨rfl, rfl⟩
  go_wp2_with fail
  have had := trAdd_any _ b S s HT.out hok ⟨xd, xn, xi⟩ i
  simp only [spotV] at had
  refine had.mono ?_
  clear had
  rintro e w12 ⟨rfl, hT12, hM12⟩
  go_wp2_with fail
  go_end0
  exact Or.inl ⟨rfl, by rw [HE.out], by rw [HE.out]; exact hT12, HM.out.trans hM12⟩
end Go.Proofs.YtakbalmbkokklaaGreat
