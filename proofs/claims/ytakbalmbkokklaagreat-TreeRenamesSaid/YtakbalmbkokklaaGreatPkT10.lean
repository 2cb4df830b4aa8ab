import Derived.Test.YtakbalmbkokklaaGreatTree9
import Derived.Test.YtakbalmbkokklaaGreatPkTree2
import Derived.Test.YtakbalmbkokklaaGreatIno4
/- package tree: Rename, from outside -/
namespace Go.Proofs.YtakbalmbkokklaaGreat
open Go.RowKit Esch Go.Shelf

set_option maxRecDepth 100000 in
set_option maxHeartbeats 2000000 in
theorem trRename_any (w : World) (b : Nat) (S : Nat → Prop) (s : TrS) (h : TreeAt w b S s) (hok : s.ok) (p q : Nm) :
    Calls Tryz.prog 32 #[.pointer (some ⟨b, 0, none⟩), .string (bs p), .string (bs q)] w (ErrPost w b S ((s.rename p q).run s)) := by
  have hmf : ∀ (fn : Fn) (first cap : Array Value) (w : World), (Instr.makeFunc fn first cap).run Tryz.prog w = .ok (.func fn first cap) w := fun _ _ _ _ => rfl
  obtain ⟨W1, hW1⟩ : ∃ W1, W1 = ((w.alloc (.cells #[.pointer (some ⟨b, 0, none⟩)] 23)).alloc (.cells #[.string (bs p)] 9)).alloc (.cells #[.string (bs q)] 9) := ⟨_, rfl⟩
  have hB1 : Below w.heap.size w W1 := by rw [hW1]; exact belC (Below.refl _ _)
  have hz1 : W1.heap.size = w.heap.size + 3 := by rw [hW1]; simp
  have hns : ∀ k, w.heap.size ≤ k → ¬ S k := fun k hk hs => by have := h.lt k hs; omega
  have hs1 : ¬ S W1.heap.size := hns _ (by omega)
  have hBe : Below w.heap.size w (W1.alloc (.cells #[.int .i64 0] 27)) := by exact belC hB1
  have hdo := rename1_any (W1.alloc (.cells #[.int .i64 0] 27)) b w.heap.size (w.heap.size + 1) (w.heap.size + 2) S s (h.below' hBe) hok p q (by rw [hW1]; go_simp) (by rw [hW1]; go_simp) (by rw [hW1]; go_simp) (hns _ (by omega)) (hns _ (by omega)) (hns _ (by omega))
  have HM1 := Lib.hid (Mod.of_below (F := S) hB1)
  have HW1 := Lib.hid hW1
  obtain ⟨r, hr⟩ : ∃ r, r = (s.rename p q).run s := ⟨_, rfl⟩
  rw [← hr] at hdo ⊢
  clear hr hB1 hW1 hBe h hz1 hns hok
  go_enter Tryz.func32, Tryz.ntmps32
  go_wp2_with fail
  rw [← HW1.out]
  refine (tries_tree W1 b 71 _ S r hs1 (enters_of Tryz.func71 (by kernel_rfl) rfl) hdo).mono ?_
  clear hdo
  rintro e W2 ⟨rfl, hT2, hM2⟩
  go_wp2_with fail
  go_ret
  exact ⟨rfl, hT2, HM1.out.trans hM2⟩
end Go.Proofs.YtakbalmbkokklaaGreat
/- package tree: Link, Truncate -/
namespace Esch
open Go Go.RowKit
theorem cut_same (s : TabS) (i n : Int) (h : (s.cut i n).1 ≠ 0) : (s.cut i n).2 = s := by
  unfold TabS.cut at *
  split
  · rfl
  split
  · rfl
  split
  · rfl
  · rename_i h1 h2 h3
    simp [h1, h2, h3] at h
end Esch
namespace Go.Proofs.YtakbalmbkokklaaGreat
open Go.RowKit Esch Go.Shelf

set_option maxRecDepth 100000 in
set_option maxHeartbeats 2000000 in
theorem trLink_any (w : World) (b : Nat) (S : Nat → Prop) (s : TrS) (h : TreeAt w b S s) (hok : s.ok) (p q : Nm) :
    Calls Tryz.prog 20 #[.pointer (some ⟨b, 0, none⟩), .string (bs p), .string (bs q)] w (ErrPost w b S ((s.lnk p q).run s)) := by
  obtain ⟨W1, hW1⟩ : ∃ W1, W1 = ((w.alloc (.cells #[.pointer (some ⟨b, 0, none⟩)] 23)).alloc (.cells #[.string (bs p)] 9)).alloc (.cells #[.string (bs q)] 9) := ⟨_, rfl⟩
  have hmf : ∀ (fn : Fn) (first cap : Array Value) (w : World), (Instr.makeFunc fn first cap).run Tryz.prog w = .ok (.func fn first cap) w := fun _ _ _ _ => rfl
  have hB1 : Below w.heap.size w W1 := by rw [hW1]; exact belC (Below.refl _ _)
  have hz1 : W1.heap.size = w.heap.size + 3 := by rw [hW1]; simp
  have hns : ∀ k, w.heap.size ≤ k → ¬ S k := fun k hk hs => by have := h.lt k hs; omega
  have hs1 : ¬ S W1.heap.size := hns _ (by omega)
  have hBe : Below w.heap.size w (W1.alloc (.cells #[.int .i64 0] 27)) := by exact belC hB1
  have hdo := link1_any (W1.alloc (.cells #[.int .i64 0] 27)) b w.heap.size (w.heap.size + 1) (w.heap.size + 2) S s (h.below' hBe) hok p q (by rw [hW1]; go_simp) (by rw [hW1]; go_simp) (by rw [hW1]; go_simp)
  have HM1 := Lib.hid (Mod.of_below (F := S) hB1)
  have HW1 := Lib.hid hW1
  obtain ⟨r, hr⟩ : ∃ r, r = (s.lnk p q).run s := ⟨_, rfl⟩
  rw [← hr] at hdo ⊢
  clear hr hB1 hW1 hBe h hz1 hns hok
  go_enter Tryz.func20, Tryz.ntmps20
  go_wp2_with fail
  rw [← HW1.out]
  refine (tries_tree W1 b 53 _ S r hs1 (enters_of Tryz.func53 (by kernel_rfl) rfl) hdo).mono ?_
  clear hdo
  rintro e W2 ⟨rfl, hT2, hM2⟩
  go_wp2_with fail
  go_ret
  exact ⟨rfl, hT2, HM1.out.trans hM2⟩
set_option maxRecDepth 100000 in
set_option maxHeartbeats 4000000 in
theorem trunc1_any (W : World) (b tb pb kb : Nat) (S : Nat → Prop) (s : TrS) (h : TreeAt W b S s) (hok : s.ok) (p : Nm) (n : Int)
    (t0 : W.cell? ⟨tb, 0, none⟩ = some (.pointer (some ⟨b, 0, none⟩))) (p0 : W.cell? ⟨pb, 0, none⟩ = some (.string (bs p))) (k0 : W.cell? ⟨kb, 0, none⟩ = some (.int .i64 n)) (nt : ¬ S tb) (np : ¬ S pb) (nk : ¬ S kb) :
    Calls Tryz.prog 56 #[.pointer (some ⟨tb, 0, none⟩), .pointer (some ⟨pb, 0, none⟩), .pointer (some ⟨kb, 0, none⟩)] W (DoPost (ChgR W b S ((s.trunc p n).run s))) := by
  have hBd : Below W.heap.size W W.drew := by exact belC (Below.refl _ _)
  have hno := stop_no
  have hys := stop_yes
  have hrs := trResolve_any W.drew b S s (h.below' hBd) p
  have H := Lib.hid h
  have hT := h.below' hBd
  obtain ⟨sb, lt, ib, nb, S1, S2, c0, c1, ht, hn, s1, s2, dd, b1, b2⟩ := hT
  have hKd : W.drew.cell? ⟨tb, 0, none⟩ = some (.pointer (some ⟨b, 0, none⟩)) ∧ W.drew.cell? ⟨pb, 0, none⟩ = some (.string (bs p)) ∧ W.drew.cell? ⟨kb, 0, none⟩ = some (.int .i64 n) ∧ W.drew.cell? ⟨b, 0, none⟩ = some (.pointer (some ⟨ib, 0, none⟩)) := ⟨t0, p0, k0, c0⟩
  have hst := fun W' hB i => inoTruncate_any W' ib S1 s.t (ht.below' (w' := W') hB) i n (hok.t.x i)
  have HX := Lib.hid (show ∀ W2 W' t', Below W.drew.heap.size W.drew W2 → TabAt W' ib S1 t' → Mod S1 W2 W' → TreeAt W' b S ⟨t', s.n⟩ ∧ Mod S W2 W' from fun W2 W' t' hB h1 h2 => TreeAt.tab (s := s) sb (fun k hk => Nat.lt_of_lt_of_le (lt k hk) hB.size) (below_at hB c0 (cell_lt c0)) (below_at hB c1 (cell_lt c1)) (hn.below' hB) s1 s2 dd b1 b2 h1 h2)
  have m1 : ¬ S1 tb := fun hk => nt (s1 _ hk)
  have m2 : ¬ S1 pb := fun hk => np (s1 _ hk)
  have m3 : ¬ S1 kb := fun hk => nk (s1 _ hk)
  obtain ⟨r, hr⟩ : ∃ r, r = (s.trunc p n).run s := ⟨_, rfl⟩
  rw [← hr]
  have HR := Lib.hid hr
  clear h ht hn s1 s2 dd lt sb c1 b2 hr hok
  cases hp : s.resolve p with
  | err e =>
    rw [hp] at hrs
    have HE := Lib.hid (show r = (e, s) by rw [HR.out]; unfold TrS.trunc; rw [hp]; rfl)
    clear hp hst
    go_enter Tryz.func56, Tryz.ntmps56
    go_wp2_with fail
    refine wp_region_held_drew (S := fun W' => W'.cell? ⟨tb, 0, none⟩ = some (.pointer (some ⟨b, 0, none⟩)) ∧ W'.cell? ⟨pb, 0, none⟩ = some (.string (bs p)) ∧ W'.cell? ⟨kb, 0, none⟩ = some (.int .i64 n) ∧ W'.cell? ⟨b, 0, none⟩ = some (.pointer (some ⟨ib, 0, none⟩))) (by kernel_rfl) hKd (fun hHeld => ?_)
    refine takeL 0 ?_
    refine takeL 1 ?_
    refine takeL 2 ?_
    refine takeL 3 ?_
    refine takeL 4 ?_
    refine takeL 5 ?_
    refine takeL 7 ?_
    refine wpAnyH_ready (rs := [6]) (by kernel_rfl) (by simp) ?_
    refine AllReadyH.cons (o := _) rfl (fun K hK => ?_) AllReadyH.nil
    go_simp
    go_at_call 40
    with_reducible refine hrs.mono ?_
    clear hrs
    rintro e W2 ⟨hB2, rfl⟩
    go_wp2_with fail
    have hB : Below W.heap.size W W2 := hBd.trans hB2
    exact ⟨rfl, Or.inr ⟨_, rfl, by rw [HE.out], by rw [HE.out]; exact H.out.below' hB, Mod.of_below hB⟩⟩
  | ok i =>
    rw [hp] at hrs
    have HP := Lib.hid hp
    have hst2 := fun W' hB => hst W' hB i
    obtain ⟨rc, hrc⟩ : ∃ rc, rc = s.t.cut i n := ⟨_, rfl⟩
    have hsm := cut_same s.t i n
    rw [← hrc] at hsm
    have HQ := Lib.hid (show s.trunc p n = (stopB rc.1 (decide (rc.1 ≠ 0))).bind fun _ => .ok ⟨rc.2, s.n⟩ by unfold TrS.trunc; rw [hp, hrc]; rfl)
    rw [← hrc] at hst2
    obtain ⟨re, rt⟩ := rc
    have HC := Lib.hid hsm
    clear hp hst hrc hsm
    by_cases hz : re = 0
    · subst hz
      have HE := Lib.hid (show r = (0, ⟨rt, s.n⟩) by rw [HR.out, HQ.out]; simp [Res.bind, stopB, Res.run])
      go_enter Tryz.func56, Tryz.ntmps56
      go_wp2_with fail
      refine wp_region_held_drew (S := fun W' => W'.cell? ⟨tb, 0, none⟩ = some (.pointer (some ⟨b, 0, none⟩)) ∧ W'.cell? ⟨pb, 0, none⟩ = some (.string (bs p)) ∧ W'.cell? ⟨kb, 0, none⟩ = some (.int .i64 n) ∧ W'.cell? ⟨b, 0, none⟩ = some (.pointer (some ⟨ib, 0, none⟩))) (by kernel_rfl) hKd (fun hHeld => ?_)
      refine takeL 0 ?_
      refine takeL 1 ?_
      refine takeL 2 ?_
      refine takeL 3 ?_
      refine takeL 4 ?_
      refine takeL 5 ?_
      refine takeL 7 ?_
      refine wpAnyH_ready (rs := [6]) (by kernel_rfl) (by simp) ?_
      refine AllReadyH.cons (o := _) rfl (fun K hK => ?_) AllReadyH.nil
      go_simp
      go_at_call 40
      with_reducible refine hrs.mono ?_
      clear hrs
      rintro e W2 ⟨hB2, rfl⟩
      have q2 : W2.cell? ⟨tb, 0, none⟩ = some (.pointer (some ⟨b, 0, none⟩)) ∧ W2.cell? ⟨pb, 0, none⟩ = some (.string (bs p)) ∧ W2.cell? ⟨kb, 0, none⟩ = some (.int .i64 n) ∧ W2.cell? ⟨b, 0, none⟩ = some (.pointer (some ⟨ib, 0, none⟩)) := ⟨below_at hB2 hKd.1 (cell_lt hKd.1), below_at hB2 hKd.2.1 (cell_lt hKd.2.1), below_at hB2 hKd.2.2.1 (cell_lt hKd.2.2.1), below_at hB2 hKd.2.2.2 (cell_lt hKd.2.2.2)⟩
      have hst3 := hst2 W2 hB2
      have HB2 := Lib.hid hB2
      clear hB2 hst2
      try go_wp2_with fail
      refine hK.out _ _ q2 (fun hHeld => ?_)
      clear hK K
      try simp only [Act.put, List.setIfInBounds_toArray, List.set_cons_zero, List.set_cons_succ]
      refine wpAnyH_ready (rs := [8]) (by kernel_rfl) (by simp) ?_
      refine AllReadyH.cons (o := _) rfl (fun K hK => ?_) AllReadyH.nil
      go_simp
      go_at_call 57
      with_reducible refine hst3.mono ?_
      clear hst3
      rintro e W3 ⟨rfl, hT3, hM3⟩
      have q3 : W3.cell? ⟨tb, 0, none⟩ = some (.pointer (some ⟨b, 0, none⟩)) ∧ W3.cell? ⟨pb, 0, none⟩ = some (.string (bs p)) ∧ W3.cell? ⟨kb, 0, none⟩ = some (.int .i64 n) ∧ W3.cell? ⟨b, 0, none⟩ = some (.pointer (some ⟨ib, 0, none⟩)) := ⟨hM3.at q2.1 m1, hM3.at q2.2.1 m2, hM3.at q2.2.2.1 m3, hM3.at q2.2.2.2 b1⟩
      have HT3 := Lib.hid (HX.out _ _ _ HB2.out hT3 hM3).1
      have HM3 := Lib.hid ((Mod.of_below (F := S) (hBd.trans HB2.out)).trans (HX.out _ _ _ HB2.out hT3 hM3).2)
      clear hT3 hM3
      try go_wp2_with fail
      refine hK.out _ _ q3 (fun hHeld => ?_)
      clear hK K
      try simp only [Act.put, List.setIfInBounds_toArray, List.set_cons_zero, List.set_cons_succ]
      refine takeL 9 ?_
      refine wpAnyH_done (by kernel_rfl) ?_ _
      go_wp2_with fail
      refine (hno _ _).mono ?_
      rintro e w9 ⟨rfl, rfl⟩
      go_wp2_with fail
      go_end0
      exact Or.inl ⟨rfl, by rw [HE.out], by rw [HE.out]; exact HT3.out, HM3.out⟩
    · have HE := Lib.hid (show r = (re, s) by rw [HR.out, HQ.out]; simp [Res.bind, stopB, hz, Res.run])
      have hz2 : (re != 0) = true := by simpa using hz
      have hsm : rt = s.t := HC.out hz
      subst hsm
      clear hz
      go_enter Tryz.func56, Tryz.ntmps56
      go_wp2_with fail
      refine wp_region_held_drew (S := fun W' => W'.cell? ⟨tb, 0, none⟩ = some (.pointer (some ⟨b, 0, none⟩)) ∧ W'.cell? ⟨pb, 0, none⟩ = some (.string (bs p)) ∧ W'.cell? ⟨kb, 0, none⟩ = some (.int .i64 n) ∧ W'.cell? ⟨b, 0, none⟩ = some (.pointer (some ⟨ib, 0, none⟩))) (by kernel_rfl) hKd (fun hHeld => ?_)
      refine takeL 0 ?_
      refine takeL 1 ?_
      refine takeL 2 ?_
      refine takeL 3 ?_
      refine takeL 4 ?_
      refine takeL 5 ?_
      refine takeL 7 ?_
      refine wpAnyH_ready (rs := [6]) (by kernel_rfl) (by simp) ?_
      refine AllReadyH.cons (o := _) rfl (fun K hK => ?_) AllReadyH.nil
      go_simp
      go_at_call 40
      with_reducible refine hrs.mono ?_
      clear hrs
      rintro e W2 ⟨hB2, rfl⟩
      have q2 : W2.cell? ⟨tb, 0, none⟩ = some (.pointer (some ⟨b, 0, none⟩)) ∧ W2.cell? ⟨pb, 0, none⟩ = some (.string (bs p)) ∧ W2.cell? ⟨kb, 0, none⟩ = some (.int .i64 n) ∧ W2.cell? ⟨b, 0, none⟩ = some (.pointer (some ⟨ib, 0, none⟩)) := ⟨below_at hB2 hKd.1 (cell_lt hKd.1), below_at hB2 hKd.2.1 (cell_lt hKd.2.1), below_at hB2 hKd.2.2.1 (cell_lt hKd.2.2.1), below_at hB2 hKd.2.2.2 (cell_lt hKd.2.2.2)⟩
      have hst3 := hst2 W2 hB2
      have HB2 := Lib.hid hB2
      clear hB2 hst2
      try go_wp2_with fail
      refine hK.out _ _ q2 (fun hHeld => ?_)
      clear hK K
      try simp only [Act.put, List.setIfInBounds_toArray, List.set_cons_zero, List.set_cons_succ]
      refine wpAnyH_ready (rs := [8]) (by kernel_rfl) (by simp) ?_
      refine AllReadyH.cons (o := _) rfl (fun K hK => ?_) AllReadyH.nil
      go_simp
      go_at_call 57
      with_reducible refine hst3.mono ?_
      clear hst3
      rintro e W3 ⟨rfl, hT3, hM3⟩
      have q3 : W3.cell? ⟨tb, 0, none⟩ = some (.pointer (some ⟨b, 0, none⟩)) ∧ W3.cell? ⟨pb, 0, none⟩ = some (.string (bs p)) ∧ W3.cell? ⟨kb, 0, none⟩ = some (.int .i64 n) ∧ W3.cell? ⟨b, 0, none⟩ = some (.pointer (some ⟨ib, 0, none⟩)) := ⟨hM3.at q2.1 m1, hM3.at q2.2.1 m2, hM3.at q2.2.2.1 m3, hM3.at q2.2.2.2 b1⟩
      have HT3 := Lib.hid (HX.out _ _ _ HB2.out hT3 hM3).1
      have HM3 := Lib.hid ((Mod.of_below (F := S) (hBd.trans HB2.out)).trans (HX.out _ _ _ HB2.out hT3 hM3).2)
      clear hT3 hM3
      try go_wp2_with fail
      refine hK.out _ _ q3 (fun hHeld => ?_)
      clear hK K
      try simp only [Act.put, List.setIfInBounds_toArray, List.set_cons_zero, List.set_cons_succ]
      refine takeL 9 ?_
      refine wpAnyH_done (by kernel_rfl) ?_ _
      go_wp2_with fail
      refine (hys _ _).mono ?_
      rintro e w9 ⟨rfl, rfl⟩
      go_wp2_with fail
      exact ⟨rfl, Or.inr ⟨_, rfl, by rw [HE.out], by rw [HE.out]; exact HT3.out, HM3.out⟩⟩
set_option maxRecDepth 100000 in
set_option maxHeartbeats 2000000 in
theorem trTruncate_any (w : World) (b : Nat) (S : Nat → Prop) (s : TrS) (h : TreeAt w b S s) (hok : s.ok) (p : Nm) (n : Int) :
    Calls Tryz.prog 22 #[.pointer (some ⟨b, 0, none⟩), .string (bs p), .int .i64 n] w (ErrPost w b S ((s.trunc p n).run s)) := by
  obtain ⟨W1, hW1⟩ : ∃ W1, W1 = ((w.alloc (.cells #[.pointer (some ⟨b, 0, none⟩)] 23)).alloc (.cells #[.string (bs p)] 9)).alloc (.cells #[.int .i64 n] 3) := ⟨_, rfl⟩
  have hmf : ∀ (fn : Fn) (first cap : Array Value) (w : World), (Instr.makeFunc fn first cap).run Tryz.prog w = .ok (.func fn first cap) w := fun _ _ _ _ => rfl
  have hB1 : Below w.heap.size w W1 := by rw [hW1]; exact belC (Below.refl _ _)
  have hz1 : W1.heap.size = w.heap.size + 3 := by rw [hW1]; simp
  have hns : ∀ k, w.heap.size ≤ k → ¬ S k := fun k hk hs => by have := h.lt k hs; omega
  have hs1 : ¬ S W1.heap.size := hns _ (by omega)
  have hBe : Below w.heap.size w (W1.alloc (.cells #[.int .i64 0] 27)) := by exact belC hB1
  have hdo := trunc1_any (W1.alloc (.cells #[.int .i64 0] 27)) b w.heap.size (w.heap.size + 1) (w.heap.size + 2) S s (h.below' hBe) hok p n (by rw [hW1]; go_simp) (by rw [hW1]; go_simp) (by rw [hW1]; go_simp) (hns _ (by omega)) (hns _ (by omega)) (hns _ (by omega))
  have HM1 := Lib.hid (Mod.of_below (F := S) hB1)
  have HW1 := Lib.hid hW1
  obtain ⟨r, hr⟩ : ∃ r, r = (s.trunc p n).run s := ⟨_, rfl⟩
  rw [← hr] at hdo ⊢
  clear hr hB1 hW1 hBe h hz1 hns hok
  go_enter Tryz.func22, Tryz.ntmps22
  go_wp2_with fail
  rw [← HW1.out]
  refine (tries_tree W1 b 56 _ S r hs1 (enters_of Tryz.func56 (by kernel_rfl) rfl) hdo).mono ?_
  clear hdo
  rintro e W2 ⟨rfl, hT2, hM2⟩
  go_wp2_with fail
  go_ret
  exact ⟨rfl, hT2, HM1.out.trans hM2⟩
end Go.Proofs.YtakbalmbkokklaaGreat
