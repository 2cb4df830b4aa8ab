/- the document's Good of a record, by its kind -/
import Derived.Test.YtpiogibkleaaaaaGreatDoorR8
namespace Go.Proofs.YtpiogibkleaaaaaGreatDoor
open Go.RowKit Esch

set_option linter.unusedSimpArgs false
set_option maxRecDepth 100000 in
set_option maxHeartbeats 8000000 in
theorem rgood1_any (w : World) (x : OpS) (mv : List Mv) (hR : RGd w x mv) (hk : x.kind = 1) (h1 : winB x.client 0 7 = true) (h2 : winB x.seq 1 2147483647 = true) (h3 : x.alike x.kept = true) (hp : x.path.length ≤ 100000) (hp2 : x.dest.length ≤ 100000) :
    Calls Tryz.prog 95 #[.agg x.cells.toArray] w (BoolB w (goodPath x.path)) := by
  have hin := hR.h
  have h16 := hR.l
  have hko : ∀ W, Below w.heap.size w W → Calls Tryz.prog 142 #[.agg x.cells.toArray, .agg x.kept.cells.toArray] W (BoolB W (x.alike x.kept)) := fun W hB => kOp_kept W x mv (hin.below' hB) h16
  have g1 := rIn_any x.client 0 7
  have g2 := rIn_any x.seq 1 2147483647
  rw [h1] at g1
  rw [h2] at g2
  rw [h3] at hko
  clear h1 h2 h3
  obtain ⟨xc, xs, xk, p, q, xz, xh, xo, xt, xi, xn, mp, ml, mc⟩ := x
  try simp only at hk
  subst hk
  simp only [OpS.cells] at hko ⊢
  try simp only at g1 g2 hp hp2
  clear hin h16 hR
  have gp := fun W => rGood_any W p hp
  unfold goodPath
  try simp only
  generalize (namesOf p).isSome = r at gp ⊢
  obtain ⟨W1, hW1⟩ : ∃ W1, W1 = w.alloc (.cells #[.int .i64 xc, .int .i64 xs, .int .i64 1, .string (bs p), .string (bs q), .int .i64 xz, .int .i64 xh, .int .i64 xo, .string xt, .int .i64 xi, .int .i64 xn, .slice mp ml mc] 41) := ⟨_, rfl⟩
  have hB1 : Below w.heap.size w W1 := by rw [hW1]; exact belC (Below.refl _ _)
  have c0 : W1.cell? ⟨w.heap.size, 0, none⟩ = some (.int .i64 xc) := by rw [hW1]; go_simp
  have c1 : W1.cell? ⟨w.heap.size, 1, none⟩ = some (.int .i64 xs) := by rw [hW1]; go_simp
  have c2 : W1.cell? ⟨w.heap.size, 2, none⟩ = some (.int .i64 1) := by rw [hW1]; go_simp
  have c3 : W1.cell? ⟨w.heap.size, 3, none⟩ = some (.string (bs p)) := by rw [hW1]; go_simp
  have c4 : W1.cell? ⟨w.heap.size, 4, none⟩ = some (.string (bs q)) := by rw [hW1]; go_simp
  have c5 : W1.cell? ⟨w.heap.size, 5, none⟩ = some (.int .i64 xz) := by rw [hW1]; go_simp
  have c6 : W1.cell? ⟨w.heap.size, 6, none⟩ = some (.int .i64 xh) := by rw [hW1]; go_simp
  have c7 : W1.cell? ⟨w.heap.size, 7, none⟩ = some (.int .i64 xo) := by rw [hW1]; go_simp
  have c8 : W1.cell? ⟨w.heap.size, 8, none⟩ = some (.string xt) := by rw [hW1]; go_simp
  have c9 : W1.cell? ⟨w.heap.size, 9, none⟩ = some (.int .i64 xi) := by rw [hW1]; go_simp
  have c10 : W1.cell? ⟨w.heap.size, 10, none⟩ = some (.int .i64 xn) := by rw [hW1]; go_simp
  have c11 : W1.cell? ⟨w.heap.size, 11, none⟩ = some (.slice mp ml mc) := by rw [hW1]; go_simp
  have hol := cell_lt c0
  have HW1 := Lib.hid hW1
  have HB1 := Lib.hid hB1
  clear hW1 hB1
  go_enter Tryz.func95, Tryz.ntmps95
  go_wp2_with fail
  rw [← HW1.out]
  refine wp_region_held_drew (S := (fun W' => W'.cell? ⟨w.heap.size, 0, none⟩ = some (.int .i64 xc) ∧ W'.cell? ⟨w.heap.size, 1, none⟩ = some (.int .i64 xs) ∧ W'.cell? ⟨w.heap.size, 2, none⟩ = some (.int .i64 1) ∧ W'.cell? ⟨w.heap.size, 3, none⟩ = some (.string (bs p)) ∧ W'.cell? ⟨w.heap.size, 4, none⟩ = some (.string (bs q)) ∧ W'.cell? ⟨w.heap.size, 5, none⟩ = some (.int .i64 xz) ∧ W'.cell? ⟨w.heap.size, 6, none⟩ = some (.int .i64 xh) ∧ W'.cell? ⟨w.heap.size, 7, none⟩ = some (.int .i64 xo) ∧ W'.cell? ⟨w.heap.size, 8, none⟩ = some (.string xt) ∧ W'.cell? ⟨w.heap.size, 9, none⟩ = some (.int .i64 xi) ∧ W'.cell? ⟨w.heap.size, 10, none⟩ = some (.int .i64 xn) ∧ W'.cell? ⟨w.heap.size, 11, none⟩ = some (.slice mp ml mc))) (by kernel_rfl) ⟨c0, c1, c2, c3, c4, c5, c6, c7, c8, c9, c10, c11⟩ (fun hHeld => ?_)
  refine takeL 0 ?_
  refine takeL 1 ?_
  refine wpAnyH_ready (rs := [2]) (by kernel_rfl) (by simp) ?_
  refine AllReadyH.cons (o := _) rfl (fun K hK => ?_) AllReadyH.nil
  go_simp
  refine (g1 _).mono ?_
  rintro e wi ⟨rfl, hq⟩
  obtain rfl := hq.symm
  try go_wp2_with fail
  refine hK.out _ _ ⟨c0, c1, c2, c3, c4, c5, c6, c7, c8, c9, c10, c11⟩ (fun hHeld => ?_)
  clear hK K
  try simp only [Act.put, List.setIfInBounds_toArray, List.set_cons_zero, List.set_cons_succ]
  refine takeL 3 ?_
  refine takeL 4 ?_
  refine takeL 5 ?_
  refine takeL 6 ?_
  refine wpAnyH_ready (rs := [7]) (by kernel_rfl) (by simp) ?_
  refine AllReadyH.cons (o := _) rfl (fun K hK => ?_) AllReadyH.nil
  go_simp
  refine (g2 _).mono ?_
  rintro e wi ⟨rfl, hq⟩
  obtain rfl := hq.symm
  try go_wp2_with fail
  refine hK.out _ _ ⟨c0, c1, c2, c3, c4, c5, c6, c7, c8, c9, c10, c11⟩ (fun hHeld => ?_)
  clear hK K
  try simp only [Act.put, List.setIfInBounds_toArray, List.set_cons_zero, List.set_cons_succ]
  refine takeL 8 ?_
  refine takeL 9 ?_
  refine takeL 10 ?_
  refine takeL 11 ?_
  refine takeL 12 ?_
  refine wpAnyH_ready (rs := [13]) (by kernel_rfl) (by simp) ?_
  refine AllReadyH.cons (o := _) rfl (fun K hK => ?_) AllReadyH.nil
  go_simp
  refine (only_any _ ⟨xc, xs, 1, p, q, xz, xh, xo, xt, xi, xn, mp, ml, mc⟩).mono ?_
  rintro e w2 ⟨rfl, hB2'⟩
  have hB2 : Below W1.heap.size W1 w2 := ⟨hB2'.os, hB2'.tape, hB2'.output, hB2'.size, hB2'.block⟩
  have c0 := below_at hB2 c0 hol
  have c1 := below_at hB2 c1 hol
  have c2 := below_at hB2 c2 hol
  have c3 := below_at hB2 c3 hol
  have c4 := below_at hB2 c4 hol
  have c5 := below_at hB2 c5 hol
  have c6 := below_at hB2 c6 hol
  have c7 := below_at hB2 c7 hol
  have c8 := below_at hB2 c8 hol
  have c9 := below_at hB2 c9 hol
  have c10 := below_at hB2 c10 hol
  have c11 := below_at hB2 c11 hol
  have hol := cell_lt c0
  have HB2 := Lib.hid (HB1.out.trans (hB2.mono HB1.out.size))
  clear hB2 hB2'
  try go_wp2_with fail
  refine hK.out _ _ ⟨c0, c1, c2, c3, c4, c5, c6, c7, c8, c9, c10, c11⟩ (fun hHeld => ?_)
  clear hK K
  try simp only [Act.put, List.setIfInBounds_toArray, List.set_cons_zero, List.set_cons_succ]
  refine wpAnyH_ready (rs := [14]) (by kernel_rfl) (by simp) ?_
  refine AllReadyH.cons (o := _) rfl (fun K hK => ?_) AllReadyH.nil
  go_simp
  refine (hko _ HB2.out).mono ?_
  rintro e w3 ⟨rfl, hB3⟩
  have c0 := below_at hB3 c0 hol
  have c1 := below_at hB3 c1 hol
  have c2 := below_at hB3 c2 hol
  have c3 := below_at hB3 c3 hol
  have c4 := below_at hB3 c4 hol
  have c5 := below_at hB3 c5 hol
  have c6 := below_at hB3 c6 hol
  have c7 := below_at hB3 c7 hol
  have c8 := below_at hB3 c8 hol
  have c9 := below_at hB3 c9 hol
  have c10 := below_at hB3 c10 hol
  have c11 := below_at hB3 c11 hol
  have hol := cell_lt c0
  have HB3 := Lib.hid (HB2.out.trans (hB3.mono HB2.out.size))
  clear hB3
  try go_wp2_with fail
  refine hK.out _ _ ⟨c0, c1, c2, c3, c4, c5, c6, c7, c8, c9, c10, c11⟩ (fun hHeld => ?_)
  clear hK K
  try simp only [Act.put, List.setIfInBounds_toArray, List.set_cons_zero, List.set_cons_succ]
  refine takeL 15 ?_
  refine takeL 16 ?_
  refine wpAnyH_done (by kernel_rfl) ?_ _
  clear hHeld
  go_wp2_with fail
  refine (gp _).mono ?_
  rintro e wg1 ⟨rfl, hBg1⟩
  have HB3 := Lib.hid (HB3.out.trans (hBg1.mono HB3.out.size))
  have c0 := below_at hBg1 c0 hol
  have c1 := below_at hBg1 c1 hol
  have c2 := below_at hBg1 c2 hol
  have c3 := below_at hBg1 c3 hol
  have c4 := below_at hBg1 c4 hol
  have c5 := below_at hBg1 c5 hol
  have c6 := below_at hBg1 c6 hol
  have c7 := below_at hBg1 c7 hol
  have c8 := below_at hBg1 c8 hol
  have c9 := below_at hBg1 c9 hol
  have c10 := below_at hBg1 c10 hol
  have c11 := below_at hBg1 c11 hol
  have hol := cell_lt c0
  clear hBg1
  go_wp2_with fail
  go_ret
  exact ⟨rfl, by exact belC HB3.out⟩

end Go.Proofs.YtpiogibkleaaaaaGreatDoor
