/- package tree: New, full, add, drop -/
import Derived.Test.YtakbalmbkokklaaGreatTries
namespace Esch
open Go Go.RowKit
/-- the inodes alone, or the names alone, were written -/
theorem TreeAt.tab {w w' : World} {b ib nb : Nat} {S S1 S2 : Nat → Prop} {s : TrS} {t' : TabS} (sb : S b) (lt : ∀ k, S k → k < w.heap.size) (c0 : w.cell? ⟨b, 0, none⟩ = some (.pointer (some ⟨ib, 0, none⟩))) (c1 : w.cell? ⟨b, 1, none⟩ = some (.pointer (some ⟨nb, 0, none⟩)))
    (hn : DirAt w nb S2 s.n) (s1 : ∀ k, S1 k → S k) (s2 : ∀ k, S2 k → S k) (d : ∀ k, S1 k → ¬ S2 k) (b1 : ¬ S1 b) (b2 : ¬ S2 b) (ht : TabAt w' ib S1 t') (hM : Mod S1 w w') : TreeAt w' b S ⟨t', s.n⟩ ∧ Mod S w w' :=
  ⟨⟨sb, fun k hk => Nat.lt_of_lt_of_le (lt k hk) hM.size, ib, nb, S1, S2, hM.at c0 b1, hM.at c1 b1, ht, hn.mod hM (fun k hk h => d k h hk), s1, s2, d, b1, b2⟩, hM.mono fun k _ hk => s1 k hk⟩
theorem TreeAt.dir {w w' : World} {b ib nb : Nat} {S S1 S2 : Nat → Prop} {s : TrS} {n' : DirS} (sb : S b) (lt : ∀ k, S k → k < w.heap.size) (c0 : w.cell? ⟨b, 0, none⟩ = some (.pointer (some ⟨ib, 0, none⟩))) (c1 : w.cell? ⟨b, 1, none⟩ = some (.pointer (some ⟨nb, 0, none⟩)))
    (ht : TabAt w ib S1 s.t) (s1 : ∀ k, S1 k → S k) (s2 : ∀ k, S2 k → S k) (d : ∀ k, S1 k → ¬ S2 k) (b1 : ¬ S1 b) (b2 : ¬ S2 b) (hn : DirAt w' nb S2 n') (hM : Mod S2 w w') : TreeAt w' b S ⟨s.t, n'⟩ ∧ Mod S w w' :=
  ⟨⟨sb, fun k hk => Nat.lt_of_lt_of_le (lt k hk) hM.size, ib, nb, S1, S2, hM.at c0 b2, hM.at c1 b2, ht.mod hM (fun k hk h => d k hk h), hn, s1, s2, d, b1, b2⟩, hM.mono fun k _ hk => s2 k hk⟩
end Esch
namespace Go.Proofs.YtakbalmbkokklaaGreat
open Go.RowKit Esch Go.Shelf

theorem trNew_any (w : World) : Calls Tryz.prog 9 #[] w fun e w' => ∃ b, e = .returned (.pointer (some ⟨b, 0, none⟩)) ∧ TreeAt w' b (fun k => w.heap.size ≤ k ∧ k < w'.heap.size) tr0 ∧ Below w.heap.size w w' := by
  go_enter Tryz.func9, Tryz.ntmps9
  go_wp2_with fail
  refine (inoNew_any _).mono ?_
  rintro e w1 ⟨ib, rfl, ht, hB1⟩
  have HT := Lib.hid ht
  have HB1 := Lib.hid hB1
  clear ht hB1
  go_wp2_with fail
  refine (dirNew_any _).mono ?_
  rintro e w2 ⟨nb, rfl, hn, hB2⟩
  have HN := Lib.hid hn
  have HB2 := Lib.hid hB2
  clear hn hB2
  go_wp2_with fail
  go_ret
  have h1 := HB1.out.size
  have h2 := HB2.out.size
  have hBn : Below w2.heap.size w2 (w2.alloc (.cells #[.pointer (some ⟨ib, 0, none⟩), .pointer (some ⟨nb, 0, none⟩)] 68)) := by exact belC (Below.refl _ _)
  have hB : Below w.heap.size w (w2.alloc (.cells #[.pointer (some ⟨ib, 0, none⟩), .pointer (some ⟨nb, 0, none⟩)] 68)) := (HB1.out.trans (HB2.out.mono h1)).trans (hBn.mono (by omega))
  refine ⟨w2.heap.size, rfl, ⟨⟨by omega, by simp⟩, fun k hk => hk.2, ib, nb, _, _, by go_simp, by go_simp, (HT.out.below' HB2.out).below' hBn, HN.out.below' hBn, fun k hk => ⟨hk.1, ?_⟩, fun k hk => ⟨?_, ?_⟩, fun k hk hk2 => ?_, fun hk => ?_, fun hk => ?_⟩, hB⟩
  · have := hk.2; simp only [World.size_alloc]; omega
  · have := hk.1; omega
  · have := hk.2; simp only [World.size_alloc]; omega
  · have := hk.2; have := hk2.1; omega
  · have := hk.2; omega
  · have := hk.2; omega
theorem trFull_any (w : World) (b : Nat) (S : Nat → Prop) (s : TrS) (h : TreeAt w b S s) (d : Int) :
    Calls Tryz.prog 54 #[.pointer (some ⟨b, 0, none⟩), .int .i64 d] w fun e w' => e = .returned (.bool (decide (64 ≤ s.n.count d))) ∧ w' = w := by
  obtain ⟨sb, lt, ib, nb, S1, S2, c0, c1, ht, hn, s1, s2, dd, b1, b2⟩ := h
  have hc := dirCount_any w nb S2 s.n hn d
  generalize s.n.count d = u at hc ⊢
  clear ht hn
  go_enter Tryz.func54, Tryz.ntmps54
  go_wp2_with fail
  refine hc.mono ?_
  clear hc
  rintro e w1 ⟨rfl, rfl⟩
  go_wp2_with fail
  go_ret
  exact ⟨rfl, rfl⟩
def ChgPost (w : World) (b : Nat) (S : Nat → Prop) (s : TrS) (e : Ending) (w' : World) : Prop := e = .returned (.tuple #[]) ∧ TreeAt w' b S s ∧ Mod S w w'
set_option maxRecDepth 100000 in
set_option maxHeartbeats 4000000 in
theorem trAdd_any (w : World) (b : Nat) (S : Nat → Prop) (s : TrS) (h : TreeAt w b S s) (hok : s.ok) (x : SpotS) (i : Int) :
    Calls Tryz.prog 55 #[.pointer (some ⟨b, 0, none⟩), spotV x, .int .i64 i] w (ChgPost w b S (s.add x i)) := by
  obtain ⟨xd, xn, xi⟩ := x
  unfold TrS.add
  simp only [spotV]
  obtain ⟨W1, hW1⟩ : ∃ W1, W1 = w.alloc (.cells #[.int .i64 xd, .string (bs xn), .int .i64 xi] 75) := ⟨_, rfl⟩
  have hB1 : Below w.heap.size w W1 := by rw [hW1]; exact belC (Below.refl _ _)
  have e0 : W1.drew.cell? ⟨w.heap.size, 0, none⟩ = some (.int .i64 xd) := by rw [hW1]; go_simp
  have e1 : W1.drew.cell? ⟨w.heap.size, 1, none⟩ = some (.string (bs xn)) := by rw [hW1]; go_simp
  have e2 : W1.drew.cell? ⟨w.heap.size, 2, none⟩ = some (.int .i64 xi) := by rw [hW1]; go_simp
  have hT1 := h.below' (hB1.trans (show Below w.heap.size W1 W1.drew by exact belC (Below.refl _ _)))
  have hns : ¬ S w.heap.size := fun hk => by have := h.lt _ hk; omega
  obtain ⟨sb, lt, ib, nb, S1, S2, c0, c1, ht, hn, s1, s2, dd, b1, b2⟩ := hT1
  have HW1 := Lib.hid hW1
  have HM1 := Lib.hid (show Mod S w W1.drew from (Mod.of_below (F := S) hB1).drew)
  have n1 : ¬ S2 w.heap.size := fun hk => hns (s2 _ hk)
  have n2 : ¬ S1 w.heap.size := fun hk => hns (s1 _ hk)
  clear h hW1 hB1
  have had := dirAdd_any W1.drew nb S2 s.n hn xd xn i (hok.n.nn xd) (hok.n.le xd)
  have hlk := fun W hW => inoLink_any W ib S1 s.t hW i 1 (Or.inl rfl) (hok.t.x i)
  have HX := Lib.hid (show ∀ W n', DirAt W nb S2 n' → Mod S2 W1.drew W → TreeAt W b S ⟨s.t, n'⟩ ∧ Mod S W1.drew W from fun W n' h1 h2 => TreeAt.dir (s := s) sb lt c0 c1 ht s1 s2 dd b1 b2 h1 h2)
  have HY := Lib.hid (show ∀ W, Mod S2 W1.drew W → TabAt W ib S1 s.t from fun W h2 => ht.mod h2 (fun k hk h => dd k hk h))
  have HZ := Lib.hid (show ∀ W W' n' t', DirAt W nb S2 n' → Mod S2 W1.drew W → TabAt W' ib S1 t' → Mod S1 W W' → TreeAt W' b S ⟨t', n'⟩ ∧ Mod S W W' from fun W W' n' t' h1 h2 h3 h4 => TreeAt.tab (s := ⟨s.t, n'⟩) sb (fun k hk => Nat.lt_of_lt_of_le (lt k hk) h2.size) (h2.at c0 b2) (h2.at c1 b2) h1 s1 s2 dd b1 b2 h3 h4)
  clear ht hn s1 s2 dd sb lt
  generalize s.n.add xd xn i = rn at had ⊢
  generalize s.t.link i 1 = rt at hlk ⊢
  obtain ⟨re, rn⟩ := rn
  obtain ⟨rf, rt⟩ := rt
  go_enter Tryz.func55, Tryz.ntmps55
  go_wp2_with fail
  rw [← HW1.out]
  refine wp_region_held_drew (S := fun w' => w'.cell? ⟨b, 1, none⟩ = some (.pointer (some ⟨nb, 0, none⟩)) ∧ w'.cell? ⟨w.heap.size, 0, none⟩ = some (.int .i64 xd) ∧ w'.cell? ⟨w.heap.size, 1, none⟩ = some (.string (bs xn))) (by kernel_rfl) ⟨c1, e0, e1⟩ (fun hHeld => ?_)
  refine takeL 0 ?_
  refine takeL 1 ?_
  refine takeL 2 ?_
  refine takeL 3 ?_
  refine takeL 4 ?_
  refine takeL 5 ?_
  refine takeL 6 ?_
  refine takeL 7 ?_
  refine takeL 8 ?_
  refine wpAnyH_ready (rs := [9]) (by kernel_rfl) (by simp) ?_
  refine AllReadyH.cons (o := _) rfl (fun K hK => ?_) AllReadyH.nil
  go_simp
  go_at_call 74
  with_reducible refine had.mono ?_
  clear had
  rintro e w2 ⟨rfl, hD2, hM2⟩
  have d0 := hM2.at c0 b2
  have d1 := hM2.at c1 b2
  have g0 := hM2.at e0 n1
  have g1 := hM2.at e1 n1
  have hT2 := HY.out _ hM2
  have HD2 := Lib.hid hD2
  have HM2 := Lib.hid hM2
  clear hD2 hM2
  try go_wp2_with fail
  refine hK.out _ _ ⟨d1, g0, g1⟩ (fun hHeld => ?_)
  clear hK K
  try simp only [Act.put, List.setIfInBounds_toArray, List.set_cons_zero, List.set_cons_succ]
  refine wpAnyH_done (by kernel_rfl) ?_ _
  go_wp2_with fail
  refine (hlk _ hT2).mono ?_
  clear hlk
  rintro e w3 ⟨rfl, hT3, hM3⟩
  go_wp2_with fail
  go_end0
  obtain ⟨h1, h2⟩ := HZ.out _ _ _ _ HD2.out HM2.out hT3 hM3
  exact ⟨rfl, h1, HM1.out.trans (((HX.out _ _ HD2.out HM2.out).2).trans h2)⟩
set_option maxRecDepth 100000 in
set_option maxHeartbeats 4000000 in
theorem trDrop_any (w : World) (b : Nat) (S : Nat → Prop) (s : TrS) (h : TreeAt w b S s) (hok : s.ok) (x : SpotS) :
    Calls Tryz.prog 48 #[.pointer (some ⟨b, 0, none⟩), spotV x] w (ChgPost w b S (s.drop x)) := by
  obtain ⟨xd, xn, xi⟩ := x
  unfold TrS.drop
  simp only [spotV]
  obtain ⟨W1, hW1⟩ : ∃ W1, W1 = w.alloc (.cells #[.int .i64 xd, .string (bs xn), .int .i64 xi] 75) := ⟨_, rfl⟩
  have hB1 : Below w.heap.size w W1 := by rw [hW1]; exact belC (Below.refl _ _)
  have e0 : W1.drew.cell? ⟨w.heap.size, 0, none⟩ = some (.int .i64 xd) := by rw [hW1]; go_simp
  have e1 : W1.drew.cell? ⟨w.heap.size, 1, none⟩ = some (.string (bs xn)) := by rw [hW1]; go_simp
  have e2 : W1.drew.cell? ⟨w.heap.size, 2, none⟩ = some (.int .i64 xi) := by rw [hW1]; go_simp
  have hT1 := h.below' (hB1.trans (show Below w.heap.size W1 W1.drew by exact belC (Below.refl _ _)))
  have hns : ¬ S w.heap.size := fun hk => by have := h.lt _ hk; omega
  obtain ⟨sb, lt, ib, nb, S1, S2, c0, c1, ht, hn, s1, s2, dd, b1, b2⟩ := hT1
  have HW1 := Lib.hid hW1
  have HM1 := Lib.hid (show Mod S w W1.drew from (Mod.of_below (F := S) hB1).drew)
  have n1 : ¬ S2 w.heap.size := fun hk => hns (s2 _ hk)
  have n2 : ¬ S1 w.heap.size := fun hk => hns (s1 _ hk)
  clear h hW1 hB1
  have had := dirDrop_any W1.drew nb S2 s.n hn xd xn (hok.n.nn xd) (hok.n.le xd)
  have hlk := fun W hW => inoLink_any W ib S1 s.t hW xi (-1) (Or.inr rfl) (hok.t.x xi)
  have HX := Lib.hid (show ∀ W n', DirAt W nb S2 n' → Mod S2 W1.drew W → TreeAt W b S ⟨s.t, n'⟩ ∧ Mod S W1.drew W from fun W n' h1 h2 => TreeAt.dir (s := s) sb lt c0 c1 ht s1 s2 dd b1 b2 h1 h2)
  have HY := Lib.hid (show ∀ W, Mod S2 W1.drew W → TabAt W ib S1 s.t from fun W h2 => ht.mod h2 (fun k hk h => dd k hk h))
  have HZ := Lib.hid (show ∀ W W' n' t', DirAt W nb S2 n' → Mod S2 W1.drew W → TabAt W' ib S1 t' → Mod S1 W W' → TreeAt W' b S ⟨t', n'⟩ ∧ Mod S W W' from fun W W' n' t' h1 h2 h3 h4 => TreeAt.tab (s := ⟨s.t, n'⟩) sb (fun k hk => Nat.lt_of_lt_of_le (lt k hk) h2.size) (h2.at c0 b2) (h2.at c1 b2) h1 s1 s2 dd b1 b2 h3 h4)
  clear ht hn s1 s2 dd sb lt
  generalize s.n.drop xd xn = rn at had ⊢
  generalize s.t.link xi (-1) = rt at hlk ⊢
  obtain ⟨re, rn⟩ := rn
  obtain ⟨rf, rt⟩ := rt
  go_enter Tryz.func48, Tryz.ntmps48
  go_wp2_with fail
  rw [← HW1.out]
  refine wp_region_held_drew (S := fun w' => w'.cell? ⟨b, 1, none⟩ = some (.pointer (some ⟨nb, 0, none⟩)) ∧ w'.cell? ⟨w.heap.size, 0, none⟩ = some (.int .i64 xd) ∧ w'.cell? ⟨w.heap.size, 1, none⟩ = some (.string (bs xn))) (by kernel_rfl) ⟨c1, e0, e1⟩ (fun hHeld => ?_)
  refine takeL 0 ?_
  refine takeL 1 ?_
  refine takeL 2 ?_
  refine takeL 3 ?_
  refine takeL 4 ?_
  refine takeL 5 ?_
  refine takeL 6 ?_
  refine takeL 7 ?_
  refine wpAnyH_ready (rs := [8]) (by kernel_rfl) (by simp) ?_
  refine AllReadyH.cons (o := _) rfl (fun K hK => ?_) AllReadyH.nil
  go_simp
  go_at_call 73
  with_reducible refine had.mono ?_
  clear had
  rintro e w2 ⟨rfl, hD2, hM2⟩
  have d0 := hM2.at c0 b2
  have d1 := hM2.at c1 b2
  have g0 := hM2.at e0 n1
  have g1 := hM2.at e1 n1
  have g2 := hM2.at e2 n1
  have hT2 := HY.out _ hM2
  have HD2 := Lib.hid hD2
  have HM2 := Lib.hid hM2
  clear hD2 hM2
  try go_wp2_with fail
  refine hK.out _ _ ⟨d1, g0, g1⟩ (fun hHeld => ?_)
  clear hK K
  try simp only [Act.put, List.setIfInBounds_toArray, List.set_cons_zero, List.set_cons_succ]
  refine wpAnyH_done (by kernel_rfl) ?_ _
  go_wp2_with fail
  have k0 : w2.drew.cell? ⟨b, 0, none⟩ = some (.pointer (some ⟨ib, 0, none⟩)) := d0
  have k2 : w2.drew.cell? ⟨w.heap.size, 2, none⟩ = some (.int .i64 xi) := g2
  have hT2d := hT2.below' (show Below w2.heap.size w2 w2.drew by exact belC (Below.refl _ _))
  refine wp_region_held_drew (S := fun w' => w'.cell? ⟨b, 0, none⟩ = some (.pointer (some ⟨ib, 0, none⟩)) ∧ w'.cell? ⟨w.heap.size, 2, none⟩ = some (.int .i64 xi)) (by kernel_rfl) ⟨k0, k2⟩ (fun hHeld => ?_)
  refine takeL 0 ?_
  refine takeL 1 ?_
  refine takeL 2 ?_
  refine takeL 3 ?_
  refine takeL 4 ?_
  refine takeL 5 ?_
  refine wpAnyH_ready (rs := [6]) (by kernel_rfl) (by simp) ?_
  refine AllReadyH.cons (o := _) rfl (fun K hK => ?_) AllReadyH.nil
  go_simp
  go_at_call 86
  with_reducible refine (hlk _ hT2d).mono ?_
  clear hlk
  rintro e w3 ⟨rfl, hT3, hM3⟩
  have m0 := hM3.at k0 b1
  have m2 := hM3.at k2 n2
  have HT3 := Lib.hid hT3
  have HM3 := Lib.hid ((show Mod S1 w2 w2.drew by exact modC (Mod.refl _ _)).trans hM3)
  clear hT3 hM3
  try go_wp2_with fail
  refine hK.out _ _ ⟨m0, m2⟩ (fun hHeld => ?_)
  clear hK K
  try simp only [Act.put, List.setIfInBounds_toArray, List.set_cons_zero, List.set_cons_succ]
  refine wpAnyH_done (by kernel_rfl) ?_ _
  go_end0
  obtain ⟨h1, h2⟩ := HZ.out _ _ _ _ HD2.out HM2.out HT3.out HM3.out
  exact ⟨rfl, h1, HM1.out.trans (((HX.out _ _ HD2.out HM2.out).2).trans h2)⟩
end Go.Proofs.YtakbalmbkokklaaGreat
