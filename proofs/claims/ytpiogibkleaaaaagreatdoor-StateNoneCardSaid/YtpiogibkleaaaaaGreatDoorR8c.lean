/- the document's Good of a record: moves, and kinds that there are none of -/
import Derived.Test.YtpiogibkleaaaaaGreatDoorR8
namespace Go.Proofs.YtpiogibkleaaaaaGreatDoor
open Go.RowKit Esch

set_option linter.unusedSimpArgs false
theorem goodMv_doc (dl : Nat) (a b c d : Int) (hd : dl ≤ 1024) : goodMv dl (a, b, c, d) = (winB a 0 16383 && (winB b 0 1024 && (winB c 1 1024 && (winB d 0 1024 && decide (d + c ≤ dl))))) := by
  unfold goodMv
  try simp only
  by_cases hc : winB c 1 1024 = true
  · have hc2 : 1 ≤ c ∧ c ≤ 1024 := by simpa [winB] using hc
    have e : (decide (0 ≤ d) && decide (d ≤ (dl : Int) - c)) = (winB d 0 1024 && decide (d + c ≤ dl)) := by
      unfold winB
      by_cases e0 : 0 ≤ d <;> by_cases e1 : d ≤ (dl : Int) - c <;> by_cases e2 : d ≤ 1024 <;> by_cases e3 : d + c ≤ (dl : Int) <;> first | omega | simp [e0, e1, e2, e3]
    rw [e]
  · have hc2 : winB c 1 1024 = false := by simpa using hc
    rw [hc2]
    simp
theorem mvAll_bad {l : List Mv} {p : Mv → Bool} {i : Nat} (hi : i < l.length) (h : p (l.getD i default) = false) : l.all p = false := by
  rw [List.all_eq_false]
  refine ⟨l[i], List.getElem_mem hi, ?_⟩
  rw [List.getD_eq_getElem?_getD, List.getElem?_eq_getElem hi, Option.getD_some] at h
  rw [h]
  decide
theorem mvAll_next {l : List Mv} {p : Mv → Bool} {i : Nat} (hi : i < l.length) (h0 : (l.take i).all p = true) (h : p (l.getD i default) = true) : (l.take (i + 1)).all p = true := by
  rw [List.getD_eq_getElem?_getD, List.getElem?_eq_getElem hi, Option.getD_some] at h
  rw [List.take_add_one, List.getElem?_eq_getElem hi, Option.toList_some, List.all_append, h0]
  simp [h]
def GmRel (w0 : World) (mv : List Mv) (dl n : Nat) (g : Nat) (v : Value) (wr : World) : Prop := ∃ i, g = n - i ∧ i ≤ n ∧ v = .int .i64 i ∧ Below w0.heap.size w0 wr ∧ (mv.take i).all (goodMv dl) = true
set_option maxRecDepth 100000 in
set_option maxHeartbeats 8000000 in
theorem rgood13_any (w : World) (x : OpS) (mv : List Mv) (hR : RGd w x mv) (hk : x.kind = 13) (h1 : winB x.client 0 7 = true) (h2 : winB x.seq 1 2147483647 = true) (h3 : x.alike x.kept = true) :
    Calls Tryz.prog 95 #[.agg x.cells.toArray] w (BoolB w (winB x.ino 1 2147483647 && winB mv.length 1 16 && decide (x.data.size ≤ 1024) && mv.all (goodMv x.data.size))) := by
  have hin := hR.h
  have h16 := hR.l
  have hko : ∀ W, Below w.heap.size w W → Calls Tryz.prog 142 #[.agg x.cells.toArray, .agg x.kept.cells.toArray] W (BoolB W (x.alike x.kept)) := fun W hB => kOp_kept W x mv (hin.below' hB) h16
  have g1 := rIn_any x.client 0 7
  have g2 := rIn_any x.seq 1 2147483647
  rw [h1] at g1
  rw [h2] at g2
  rw [h3] at hko
  clear h1 h2 h3
  have hrow := hin.row
  have hlen := hin.len
  obtain ⟨xc, xs, xk, p, q, xz, xh, xo, xt, xi, xn, mp, ml, mc⟩ := x
  simp only at hk
  subst hk
  simp only [OpS.cells] at hko ⊢
  simp only at g1 g2 hrow hlen
  clear hin h16 hR
  have g3 := rIn_any xn 1 2147483647
  have g4 := rIn_any ml 1 16
  have HN := Lib.hid hlen
  have hn16 : winB ml 1 16 = true → ml ≤ 16 := fun h => by simp [winB] at h; omega
  try simp only
  rw [← hlen]
  have HROW := Lib.hid hrow
  clear hrow hlen
  generalize winB xn 1 2147483647 = r at g3 ⊢
  generalize winB (ml : Int) 1 16 = r2 at g4 hn16 ⊢
  obtain ⟨W1, hW1⟩ : ∃ W1, W1 = w.alloc (.cells #[.int .i64 xc, .int .i64 xs, .int .i64 13, .string (bs p), .string (bs q), .int .i64 xz, .int .i64 xh, .int .i64 xo, .string xt, .int .i64 xi, .int .i64 xn, .slice mp ml mc] 41) := ⟨_, rfl⟩
  have hB1 : Below w.heap.size w W1 := by rw [hW1]; exact belC (Below.refl _ _)
  have c0 : W1.cell? ⟨w.heap.size, 0, none⟩ = some (.int .i64 xc) := by rw [hW1]; go_simp
  have c1 : W1.cell? ⟨w.heap.size, 1, none⟩ = some (.int .i64 xs) := by rw [hW1]; go_simp
  have c2 : W1.cell? ⟨w.heap.size, 2, none⟩ = some (.int .i64 13) := by rw [hW1]; go_simp
  have c3 : W1.cell? ⟨w.heap.size, 3, none⟩ = some (.string (bs p)) := by rw [hW1]; go_simp
  have c4 : W1.cell? ⟨w.heap.size, 4, none⟩ = some (.string (bs q)) := by rw [hW1]; go_simp
  have c5 : W1.cell? ⟨w.heap.size, 5, none⟩ = some (.int .i64 xz) := by rw [hW1]; go_simp
  have c6 : W1.cell? ⟨w.heap.size, 6, none⟩ = some (.int .i64 xh) := by rw [hW1]; go_simp
  have c7 : W1.cell? ⟨w.heap.size, 7, none⟩ = some (.int .i64 xo) := by rw [hW1]; go_simp
  have c8 : W1.cell? ⟨w.heap.size, 8, none⟩ = some (.string xt) := by rw [hW1]; go_simp
  have c9 : W1.cell? ⟨w.heap.size, 9, none⟩ = some (.int .i64 xi) := by rw [hW1]; go_simp
  have c10 : W1.cell? ⟨w.heap.size, 10, none⟩ = some (.int .i64 xn) := by rw [hW1]; go_simp
  have c11 : W1.cell? ⟨w.heap.size, 11, none⟩ = some (.slice mp ml mc) := by rw [hW1]; go_simp
  have hol := cell_lt c0
  have HW1 := Lib.hid hW1
  have HB1 := Lib.hid hB1
  clear hW1 hB1
  cases r
  · clear g4 hn16
    go_enter Tryz.func95, Tryz.ntmps95
    go_wp2_with fail
    rw [← HW1.out]
    refine wp_region_held_drew (S := (fun W' => W'.cell? ⟨w.heap.size, 0, none⟩ = some (.int .i64 xc) ∧ W'.cell? ⟨w.heap.size, 1, none⟩ = some (.int .i64 xs) ∧ W'.cell? ⟨w.heap.size, 2, none⟩ = some (.int .i64 13) ∧ W'.cell? ⟨w.heap.size, 3, none⟩ = some (.string (bs p)) ∧ W'.cell? ⟨w.heap.size, 4, none⟩ = some (.string (bs q)) ∧ W'.cell? ⟨w.heap.size, 5, none⟩ = some (.int .i64 xz) ∧ W'.cell? ⟨w.heap.size, 6, none⟩ = some (.int .i64 xh) ∧ W'.cell? ⟨w.heap.size, 7, none⟩ = some (.int .i64 xo) ∧ W'.cell? ⟨w.heap.size, 8, none⟩ = some (.string xt) ∧ W'.cell? ⟨w.heap.size, 9, none⟩ = some (.int .i64 xi) ∧ W'.cell? ⟨w.heap.size, 10, none⟩ = some (.int .i64 xn) ∧ W'.cell? ⟨w.heap.size, 11, none⟩ = some (.slice mp ml mc))) (by kernel_rfl) ⟨c0, c1, c2, c3, c4, c5, c6, c7, c8, c9, c10, c11⟩ (fun hHeld => ?_)
    refine takeL 0 ?_
    refine takeL 1 ?_
    refine wpAnyH_ready (rs := [2]) (by kernel_rfl) (by simp) ?_
    refine AllReadyH.cons (o := _) rfl (fun K hK => ?_) AllReadyH.nil
    go_simp
    refine (g1 _).mono ?_
    rintro e wi ⟨rfl, hq⟩
    obtain rfl := hq.symm
    try go_wp2_with fail
    refine hK.out _ _ ⟨c0, c1, c2, c3, c4, c5, c6, c7, c8, c9, c10, c11⟩ (fun hHeld => ?_)
    clear hK K
    try simp only [Act.put, List.setIfInBounds_toArray, List.set_cons_zero, List.set_cons_succ]
    refine takeL 3 ?_
    refine takeL 4 ?_
    refine takeL 5 ?_
    refine takeL 6 ?_
    refine wpAnyH_ready (rs := [7]) (by kernel_rfl) (by simp) ?_
    refine AllReadyH.cons (o := _) rfl (fun K hK => ?_) AllReadyH.nil
    go_simp
    refine (g2 _).mono ?_
    rintro e wi ⟨rfl, hq⟩
    obtain rfl := hq.symm
    try go_wp2_with fail
    refine hK.out _ _ ⟨c0, c1, c2, c3, c4, c5, c6, c7, c8, c9, c10, c11⟩ (fun hHeld => ?_)
    clear hK K
    try simp only [Act.put, List.setIfInBounds_toArray, List.set_cons_zero, List.set_cons_succ]
    refine takeL 8 ?_
    refine takeL 9 ?_
    refine takeL 10 ?_
    refine takeL 11 ?_
    refine takeL 12 ?_
    refine wpAnyH_ready (rs := [13]) (by kernel_rfl) (by simp) ?_
    refine AllReadyH.cons (o := _) rfl (fun K hK => ?_) AllReadyH.nil
    go_simp
    refine (only_any _ ⟨xc, xs, 13, p, q, xz, xh, xo, xt, xi, xn, mp, ml, mc⟩).mono ?_
    rintro e w2 ⟨rfl, hB2'⟩
    have hB2 : Below W1.heap.size W1 w2 := ⟨hB2'.os, hB2'.tape, hB2'.output, hB2'.size, hB2'.block⟩
    have c0 := below_at hB2 c0 hol
    have c1 := below_at hB2 c1 hol
    have c2 := below_at hB2 c2 hol
    have c3 := below_at hB2 c3 hol
    have c4 := below_at hB2 c4 hol
    have c5 := below_at hB2 c5 hol
    have c6 := below_at hB2 c6 hol
    have c7 := below_at hB2 c7 hol
    have c8 := below_at hB2 c8 hol
    have c9 := below_at hB2 c9 hol
    have c10 := below_at hB2 c10 hol
    have c11 := below_at hB2 c11 hol
    have hol := cell_lt c0
    have HB2 := Lib.hid (HB1.out.trans (hB2.mono HB1.out.size))
    clear hB2 hB2'
    try go_wp2_with fail
    refine hK.out _ _ ⟨c0, c1, c2, c3, c4, c5, c6, c7, c8, c9, c10, c11⟩ (fun hHeld => ?_)
    clear hK K
    try simp only [Act.put, List.setIfInBounds_toArray, List.set_cons_zero, List.set_cons_succ]
    refine wpAnyH_ready (rs := [14]) (by kernel_rfl) (by simp) ?_
    refine AllReadyH.cons (o := _) rfl (fun K hK => ?_) AllReadyH.nil
    go_simp
    refine (hko _ HB2.out).mono ?_
    rintro e w3 ⟨rfl, hB3⟩
    have c0 := below_at hB3 c0 hol
    have c1 := below_at hB3 c1 hol
    have c2 := below_at hB3 c2 hol
    have c3 := below_at hB3 c3 hol
    have c4 := below_at hB3 c4 hol
    have c5 := below_at hB3 c5 hol
    have c6 := below_at hB3 c6 hol
    have c7 := below_at hB3 c7 hol
    have c8 := below_at hB3 c8 hol
    have c9 := below_at hB3 c9 hol
    have c10 := below_at hB3 c10 hol
    have c11 := below_at hB3 c11 hol
    have hol := cell_lt c0
    have HB3 := Lib.hid (HB2.out.trans (hB3.mono HB2.out.size))
    clear hB3
    try go_wp2_with fail
    refine hK.out _ _ ⟨c0, c1, c2, c3, c4, c5, c6, c7, c8, c9, c10, c11⟩ (fun hHeld => ?_)
    clear hK K
    try simp only [Act.put, List.setIfInBounds_toArray, List.set_cons_zero, List.set_cons_succ]
    refine takeL 15 ?_
    refine takeL 16 ?_
    refine wpAnyH_done (by kernel_rfl) ?_ _
    clear hHeld
    go_wp2_with fail
    refine (g3 _).mono ?_
    rintro e wi ⟨rfl, hq⟩
    obtain rfl := hq.symm
    go_wp2_with fail
    go_ret
    exact ⟨rfl, by exact belC HB3.out⟩
  cases r2
  · clear hn16
    go_enter Tryz.func95, Tryz.ntmps95
    go_wp2_with fail
    rw [← HW1.out]
    refine wp_region_held_drew (S := (fun W' => W'.cell? ⟨w.heap.size, 0, none⟩ = some (.int .i64 xc) ∧ W'.cell? ⟨w.heap.size, 1, none⟩ = some (.int .i64 xs) ∧ W'.cell? ⟨w.heap.size, 2, none⟩ = some (.int .i64 13) ∧ W'.cell? ⟨w.heap.size, 3, none⟩ = some (.string (bs p)) ∧ W'.cell? ⟨w.heap.size, 4, none⟩ = some (.string (bs q)) ∧ W'.cell? ⟨w.heap.size, 5, none⟩ = some (.int .i64 xz) ∧ W'.cell? ⟨w.heap.size, 6, none⟩ = some (.int .i64 xh) ∧ W'.cell? ⟨w.heap.size, 7, none⟩ = some (.int .i64 xo) ∧ W'.cell? ⟨w.heap.size, 8, none⟩ = some (.string xt) ∧ W'.cell? ⟨w.heap.size, 9, none⟩ = some (.int .i64 xi) ∧ W'.cell? ⟨w.heap.size, 10, none⟩ = some (.int .i64 xn) ∧ W'.cell? ⟨w.heap.size, 11, none⟩ = some (.slice mp ml mc))) (by kernel_rfl) ⟨c0, c1, c2, c3, c4, c5, c6, c7, c8, c9, c10, c11⟩ (fun hHeld => ?_)
    refine takeL 0 ?_
    refine takeL 1 ?_
    refine wpAnyH_ready (rs := [2]) (by kernel_rfl) (by simp) ?_
    refine AllReadyH.cons (o := _) rfl (fun K hK => ?_) AllReadyH.nil
    go_simp
    refine (g1 _).mono ?_
    rintro e wi ⟨rfl, hq⟩
    obtain rfl := hq.symm
    try go_wp2_with fail
    refine hK.out _ _ ⟨c0, c1, c2, c3, c4, c5, c6, c7, c8, c9, c10, c11⟩ (fun hHeld => ?_)
    clear hK K
    try simp only [Act.put, List.setIfInBounds_toArray, List.set_cons_zero, List.set_cons_succ]
    refine takeL 3 ?_
    refine takeL 4 ?_
    refine takeL 5 ?_
    refine takeL 6 ?_
    refine wpAnyH_ready (rs := [7]) (by kernel_rfl) (by simp) ?_
    refine AllReadyH.cons (o := _) rfl (fun K hK => ?_) AllReadyH.nil
    go_simp
    refine (g2 _).mono ?_
    rintro e wi ⟨rfl, hq⟩
    obtain rfl := hq.symm
    try go_wp2_with fail
    refine hK.out _ _ ⟨c0, c1, c2, c3, c4, c5, c6, c7, c8, c9, c10, c11⟩ (fun hHeld => ?_)
    clear hK K
    try simp only [Act.put, List.setIfInBounds_toArray, List.set_cons_zero, List.set_cons_succ]
    refine takeL 8 ?_
    refine takeL 9 ?_
    refine takeL 10 ?_
    refine takeL 11 ?_
    refine takeL 12 ?_
    refine wpAnyH_ready (rs := [13]) (by kernel_rfl) (by simp) ?_
    refine AllReadyH.cons (o := _) rfl (fun K hK => ?_) AllReadyH.nil
    go_simp
    refine (only_any _ ⟨xc, xs, 13, p, q, xz, xh, xo, xt, xi, xn, mp, ml, mc⟩).mono ?_
    rintro e w2 ⟨rfl, hB2'⟩
    have hB2 : Below W1.heap.size W1 w2 := ⟨hB2'.os, hB2'.tape, hB2'.output, hB2'.size, hB2'.block⟩
    have c0 := below_at hB2 c0 hol
    have c1 := below_at hB2 c1 hol
    have c2 := below_at hB2 c2 hol
    have c3 := below_at hB2 c3 hol
    have c4 := below_at hB2 c4 hol
    have c5 := below_at hB2 c5 hol
    have c6 := below_at hB2 c6 hol
    have c7 := below_at hB2 c7 hol
    have c8 := below_at hB2 c8 hol
    have c9 := below_at hB2 c9 hol
    have c10 := below_at hB2 c10 hol
    have c11 := below_at hB2 c11 hol
    have hol := cell_lt c0
    have HB2 := Lib.hid (HB1.out.trans (hB2.mono HB1.out.size))
    clear hB2 hB2'
    try go_wp2_with fail
    refine hK.out _ _ ⟨c0, c1, c2, c3, c4, c5, c6, c7, c8, c9, c10, c11⟩ (fun hHeld => ?_)
    clear hK K
    try simp only [Act.put, List.setIfInBounds_toArray, List.set_cons_zero, List.set_cons_succ]
    refine wpAnyH_ready (rs := [14]) (by kernel_rfl) (by simp) ?_
    refine AllReadyH.cons (o := _) rfl (fun K hK => ?_) AllReadyH.nil
    go_simp
    refine (hko _ HB2.out).mono ?_
    rintro e w3 ⟨rfl, hB3⟩
    have c0 := below_at hB3 c0 hol
    have c1 := below_at hB3 c1 hol
    have c2 := below_at hB3 c2 hol
    have c3 := below_at hB3 c3 hol
    have c4 := below_at hB3 c4 hol
    have c5 := below_at hB3 c5 hol
    have c6 := below_at hB3 c6 hol
    have c7 := below_at hB3 c7 hol
    have c8 := below_at hB3 c8 hol
    have c9 := below_at hB3 c9 hol
    have c10 := below_at hB3 c10 hol
    have c11 := below_at hB3 c11 hol
    have hol := cell_lt c0
    have HB3 := Lib.hid (HB2.out.trans (hB3.mono HB2.out.size))
    clear hB3
    try go_wp2_with fail
    refine hK.out _ _ ⟨c0, c1, c2, c3, c4, c5, c6, c7, c8, c9, c10, c11⟩ (fun hHeld => ?_)
    clear hK K
    try simp only [Act.put, List.setIfInBounds_toArray, List.set_cons_zero, List.set_cons_succ]
    refine takeL 15 ?_
    refine takeL 16 ?_
    refine wpAnyH_done (by kernel_rfl) ?_ _
    clear hHeld
    go_wp2_with fail
    refine (g3 _).mono ?_
    rintro e wi ⟨rfl, hq⟩
    obtain rfl := hq.symm
    go_wp2_with fail
    refine (g4 _).mono ?_
    rintro e wi ⟨rfl, hq⟩
    obtain rfl := hq.symm
    go_wp2_with fail
    go_ret
    exact ⟨rfl, by exact belC HB3.out⟩
  have hn16 := hn16 rfl
  by_cases hz : xt.size ≤ 1024
  rotate_left 1
  · rw [decide_eq_false hz]
    have hz1 : (1024 : Int) < (xt.size : Int) := by omega
    clear hz hn16
    go_enter Tryz.func95, Tryz.ntmps95
    go_wp2_with fail
    rw [← HW1.out]
    refine wp_region_held_drew (S := (fun W' => W'.cell? ⟨w.heap.size, 0, none⟩ = some (.int .i64 xc) ∧ W'.cell? ⟨w.heap.size, 1, none⟩ = some (.int .i64 xs) ∧ W'.cell? ⟨w.heap.size, 2, none⟩ = some (.int .i64 13) ∧ W'.cell? ⟨w.heap.size, 3, none⟩ = some (.string (bs p)) ∧ W'.cell? ⟨w.heap.size, 4, none⟩ = some (.string (bs q)) ∧ W'.cell? ⟨w.heap.size, 5, none⟩ = some (.int .i64 xz) ∧ W'.cell? ⟨w.heap.size, 6, none⟩ = some (.int .i64 xh) ∧ W'.cell? ⟨w.heap.size, 7, none⟩ = some (.int .i64 xo) ∧ W'.cell? ⟨w.heap.size, 8, none⟩ = some (.string xt) ∧ W'.cell? ⟨w.heap.size, 9, none⟩ = some (.int .i64 xi) ∧ W'.cell? ⟨w.heap.size, 10, none⟩ = some (.int .i64 xn) ∧ W'.cell? ⟨w.heap.size, 11, none⟩ = some (.slice mp ml mc))) (by kernel_rfl) ⟨c0, c1, c2, c3, c4, c5, c6, c7, c8, c9, c10, c11⟩ (fun hHeld => ?_)
    refine takeL 0 ?_
    refine takeL 1 ?_
    refine wpAnyH_ready (rs := [2]) (by kernel_rfl) (by simp) ?_
    refine AllReadyH.cons (o := _) rfl (fun K hK => ?_) AllReadyH.nil
    go_simp
    refine (g1 _).mono ?_
    rintro e wi ⟨rfl, hq⟩
    obtain rfl := hq.symm
    try go_wp2_with fail
    refine hK.out _ _ ⟨c0, c1, c2, c3, c4, c5, c6, c7, c8, c9, c10, c11⟩ (fun hHeld => ?_)
    clear hK K
    try simp only [Act.put, List.setIfInBounds_toArray, List.set_cons_zero, List.set_cons_succ]
    refine takeL 3 ?_
    refine takeL 4 ?_
    refine takeL 5 ?_
    refine takeL 6 ?_
    refine wpAnyH_ready (rs := [7]) (by kernel_rfl) (by simp) ?_
    refine AllReadyH.cons (o := _) rfl (fun K hK => ?_) AllReadyH.nil
    go_simp
    refine (g2 _).mono ?_
    rintro e wi ⟨rfl, hq⟩
    obtain rfl := hq.symm
    try go_wp2_with fail
    refine hK.out _ _ ⟨c0, c1, c2, c3, c4, c5, c6, c7, c8, c9, c10, c11⟩ (fun hHeld => ?_)
    clear hK K
    try simp only [Act.put, List.setIfInBounds_toArray, List.set_cons_zero, List.set_cons_succ]
    refine takeL 8 ?_
    refine takeL 9 ?_
    refine takeL 10 ?_
    refine takeL 11 ?_
    refine takeL 12 ?_
    refine wpAnyH_ready (rs := [13]) (by kernel_rfl) (by simp) ?_
    refine AllReadyH.cons (o := _) rfl (fun K hK => ?_) AllReadyH.nil
    go_simp
    refine (only_any _ ⟨xc, xs, 13, p, q, xz, xh, xo, xt, xi, xn, mp, ml, mc⟩).mono ?_
    rintro e w2 ⟨rfl, hB2'⟩
    have hB2 : Below W1.heap.size W1 w2 := ⟨hB2'.os, hB2'.tape, hB2'.output, hB2'.size, hB2'.block⟩
    have c0 := below_at hB2 c0 hol
    have c1 := below_at hB2 c1 hol
    have c2 := below_at hB2 c2 hol
    have c3 := below_at hB2 c3 hol
    have c4 := below_at hB2 c4 hol
    have c5 := below_at hB2 c5 hol
    have c6 := below_at hB2 c6 hol
    have c7 := below_at hB2 c7 hol
    have c8 := below_at hB2 c8 hol
    have c9 := below_at hB2 c9 hol
    have c10 := below_at hB2 c10 hol
    have c11 := below_at hB2 c11 hol
    have hol := cell_lt c0
    have HB2 := Lib.hid (HB1.out.trans (hB2.mono HB1.out.size))
    clear hB2 hB2'
    try go_wp2_with fail
    refine hK.out _ _ ⟨c0, c1, c2, c3, c4, c5, c6, c7, c8, c9, c10, c11⟩ (fun hHeld => ?_)
    clear hK K
    try simp only [Act.put, List.setIfInBounds_toArray, List.set_cons_zero, List.set_cons_succ]
    refine wpAnyH_ready (rs := [14]) (by kernel_rfl) (by simp) ?_
    refine AllReadyH.cons (o := _) rfl (fun K hK => ?_) AllReadyH.nil
    go_simp
    refine (hko _ HB2.out).mono ?_
    rintro e w3 ⟨rfl, hB3⟩
    have c0 := below_at hB3 c0 hol
    have c1 := below_at hB3 c1 hol
    have c2 := below_at hB3 c2 hol
    have c3 := below_at hB3 c3 hol
    have c4 := below_at hB3 c4 hol
    have c5 := below_at hB3 c5 hol
    have c6 := below_at hB3 c6 hol
    have c7 := below_at hB3 c7 hol
    have c8 := below_at hB3 c8 hol
    have c9 := below_at hB3 c9 hol
    have c10 := below_at hB3 c10 hol
    have c11 := below_at hB3 c11 hol
    have hol := cell_lt c0
    have HB3 := Lib.hid (HB2.out.trans (hB3.mono HB2.out.size))
    clear hB3
    try go_wp2_with fail
    refine hK.out _ _ ⟨c0, c1, c2, c3, c4, c5, c6, c7, c8, c9, c10, c11⟩ (fun hHeld => ?_)
    clear hK K
    try simp only [Act.put, List.setIfInBounds_toArray, List.set_cons_zero, List.set_cons_succ]
    refine takeL 15 ?_
    refine takeL 16 ?_
    refine wpAnyH_done (by kernel_rfl) ?_ _
    clear hHeld
    go_wp2_with fail
    refine (g3 _).mono ?_
    rintro e wi ⟨rfl, hq⟩
    obtain rfl := hq.symm
    go_wp2_with fail
    refine (g4 _).mono ?_
    rintro e wi ⟨rfl, hq⟩
    obtain rfl := hq.symm
    go_wp2_with fail
    go_ret
    exact ⟨rfl, by exact belC HB3.out⟩
  rw [decide_eq_true hz, Bool.and_true, Bool.and_true, Bool.true_and]
  have hz1 : ¬ ((1024 : Int) < (xt.size : Int)) := by omega
  have HZ := Lib.hid hz
  have HN16 := Lib.hid hn16
  clear hz hn16
  go_enter Tryz.func95, Tryz.ntmps95
  go_wp2_with fail
  rw [← HW1.out]
  refine wp_region_held_drew (S := (fun W' => W'.cell? ⟨w.heap.size, 0, none⟩ = some (.int .i64 xc) ∧ W'.cell? ⟨w.heap.size, 1, none⟩ = some (.int .i64 xs) ∧ W'.cell? ⟨w.heap.size, 2, none⟩ = some (.int .i64 13) ∧ W'.cell? ⟨w.heap.size, 3, none⟩ = some (.string (bs p)) ∧ W'.cell? ⟨w.heap.size, 4, none⟩ = some (.string (bs q)) ∧ W'.cell? ⟨w.heap.size, 5, none⟩ = some (.int .i64 xz) ∧ W'.cell? ⟨w.heap.size, 6, none⟩ = some (.int .i64 xh) ∧ W'.cell? ⟨w.heap.size, 7, none⟩ = some (.int .i64 xo) ∧ W'.cell? ⟨w.heap.size, 8, none⟩ = some (.string xt) ∧ W'.cell? ⟨w.heap.size, 9, none⟩ = some (.int .i64 xi) ∧ W'.cell? ⟨w.heap.size, 10, none⟩ = some (.int .i64 xn) ∧ W'.cell? ⟨w.heap.size, 11, none⟩ = some (.slice mp ml mc))) (by kernel_rfl) ⟨c0, c1, c2, c3, c4, c5, c6, c7, c8, c9, c10, c11⟩ (fun hHeld => ?_)
  refine takeL 0 ?_
  refine takeL 1 ?_
  refine wpAnyH_ready (rs := [2]) (by kernel_rfl) (by simp) ?_
  refine AllReadyH.cons (o := _) rfl (fun K hK => ?_) AllReadyH.nil
  go_simp
  refine (g1 _).mono ?_
  rintro e wi ⟨rfl, hq⟩
  obtain rfl := hq.symm
  try go_wp2_with fail
  refine hK.out _ _ ⟨c0, c1, c2, c3, c4, c5, c6, c7, c8, c9, c10, c11⟩ (fun hHeld => ?_)
  clear hK K
  try simp only [Act.put, List.setIfInBounds_toArray, List.set_cons_zero, List.set_cons_succ]
  refine takeL 3 ?_
  refine takeL 4 ?_
  refine takeL 5 ?_
  refine takeL 6 ?_
  refine wpAnyH_ready (rs := [7]) (by kernel_rfl) (by simp) ?_
  refine AllReadyH.cons (o := _) rfl (fun K hK => ?_) AllReadyH.nil
  go_simp
  refine (g2 _).mono ?_
  rintro e wi ⟨rfl, hq⟩
  obtain rfl := hq.symm
  try go_wp2_with fail
  refine hK.out _ _ ⟨c0, c1, c2, c3, c4, c5, c6, c7, c8, c9, c10, c11⟩ (fun hHeld => ?_)
  clear hK K
  try simp only [Act.put, List.setIfInBounds_toArray, List.set_cons_zero, List.set_cons_succ]
  refine takeL 8 ?_
  refine takeL 9 ?_
  refine takeL 10 ?_
  refine takeL 11 ?_
  refine takeL 12 ?_
  refine wpAnyH_ready (rs := [13]) (by kernel_rfl) (by simp) ?_
  refine AllReadyH.cons (o := _) rfl (fun K hK => ?_) AllReadyH.nil
  go_simp
  refine (only_any _ ⟨xc, xs, 13, p, q, xz, xh, xo, xt, xi, xn, mp, ml, mc⟩).mono ?_
  rintro e w2 ⟨rfl, hB2'⟩
  have hB2 : Below W1.heap.size W1 w2 := ⟨hB2'.os, hB2'.tape, hB2'.output, hB2'.size, hB2'.block⟩
  have c0 := below_at hB2 c0 hol
  have c1 := below_at hB2 c1 hol
  have c2 := below_at hB2 c2 hol
  have c3 := below_at hB2 c3 hol
  have c4 := below_at hB2 c4 hol
  have c5 := below_at hB2 c5 hol
  have c6 := below_at hB2 c6 hol
  have c7 := below_at hB2 c7 hol
  have c8 := below_at hB2 c8 hol
  have c9 := below_at hB2 c9 hol
  have c10 := below_at hB2 c10 hol
  have c11 := below_at hB2 c11 hol
  have hol := cell_lt c0
  have HB2 := Lib.hid (HB1.out.trans (hB2.mono HB1.out.size))
  clear hB2 hB2'
  try go_wp2_with fail
  refine hK.out _ _ ⟨c0, c1, c2, c3, c4, c5, c6, c7, c8, c9, c10, c11⟩ (fun hHeld => ?_)
  clear hK K
  try simp only [Act.put, List.setIfInBounds_toArray, List.set_cons_zero, List.set_cons_succ]
  refine wpAnyH_ready (rs := [14]) (by kernel_rfl) (by simp) ?_
  refine AllReadyH.cons (o := _) rfl (fun K hK => ?_) AllReadyH.nil
  go_simp
  refine (hko _ HB2.out).mono ?_
  rintro e w3 ⟨rfl, hB3⟩
  have c0 := below_at hB3 c0 hol
  have c1 := below_at hB3 c1 hol
  have c2 := below_at hB3 c2 hol
  have c3 := below_at hB3 c3 hol
  have c4 := below_at hB3 c4 hol
  have c5 := below_at hB3 c5 hol
  have c6 := below_at hB3 c6 hol
  have c7 := below_at hB3 c7 hol
  have c8 := below_at hB3 c8 hol
  have c9 := below_at hB3 c9 hol
  have c10 := below_at hB3 c10 hol
  have c11 := below_at hB3 c11 hol
  have hol := cell_lt c0
  have HB3 := Lib.hid (HB2.out.trans (hB3.mono HB2.out.size))
  clear hB3
  try go_wp2_with fail
  refine hK.out _ _ ⟨c0, c1, c2, c3, c4, c5, c6, c7, c8, c9, c10, c11⟩ (fun hHeld => ?_)
  clear hK K
  try simp only [Act.put, List.setIfInBounds_toArray, List.set_cons_zero, List.set_cons_succ]
  refine takeL 15 ?_
  refine takeL 16 ?_
  refine wpAnyH_done (by kernel_rfl) ?_ _
  clear hHeld
  go_wp2_with fail
  refine (g3 _).mono ?_
  rintro e wi ⟨rfl, hq⟩
  obtain rfl := hq.symm
  go_wp2_with fail
  refine (g4 _).mono ?_
  rintro e wi ⟨rfl, hq⟩
  obtain rfl := hq.symm
  go_wp2_with fail
  have HROW3 := Lib.hid (HROW.out.below' HB3.out)
  clear c0 c1 c2 c3 c4 c5 c6 c7 c9 c10 g1 g2 g3 g4 hko HROW
  have C8 := Lib.hid c8
  have C11 := Lib.hid c11
  clear c8 c11
  go_loopg [3] ml (fun g v wr => GmRel w3 mv xt.size ml g v wr)
  case atStart => exact ⟨0, rfl, Nat.zero_le _, rfl, Below.refl _ _, rfl⟩
  case round =>
    obtain ⟨i, hg, hi, rfl, hB, hall⟩ := hrel
    subst hg
    have c8 := below_at hB C8.out hol
    have c11 := below_at hB C11.out hol
    have hol' := cell_lt c8
    have HBr := Lib.hid hB
    have HALL := Lib.hid hall
    clear hB hall
    by_cases hlt : i < ml
    · have hix : i < mv.length := HN.out ▸ hlt
      have HIX := Lib.hid hix
      obtain ⟨xb, xo', rfl, -, hxl, hxc⟩ := HROW3.out.elem mvC_len default hix
      obtain ⟨m, hm⟩ : ∃ m, m = mv.getD i default := ⟨_, rfl⟩
      rw [← hm] at hxc
      have HM := Lib.hid hm
      clear hm hix
      obtain ⟨m0, m1, m2, m3⟩ := m
      have f0 : wr.cell? ⟨xb, xo' + i * 4, none⟩ = some (.int .i64 m0) := below_at HBr.out (hxc 0 (by decide)) hxl
      have f1 : wr.cell? ⟨xb, xo' + i * 4 + 1, none⟩ = some (.int .i64 m1) := below_at HBr.out (hxc 1 (by decide)) hxl
      have f2 : wr.cell? ⟨xb, xo' + i * 4 + 2, none⟩ = some (.int .i64 m2) := below_at HBr.out (hxc 2 (by decide)) hxl
      have f3 : wr.cell? ⟨xb, xo' + i * 4 + 3, none⟩ = some (.int .i64 m3) := below_at HBr.out (hxc 3 (by decide)) hxl
      have hil : (i : Int) < (ml : Int) := Int.ofNat_lt.2 hlt
      have hwi : wrap64 ((i : Int) + 1) = ((i + 1 : Nat) : Int) := by have := HN16.out; unfold wrap64; omega
      have HWI := Lib.hid hwi
      have hms : ml - (i + 1) < ml - i := Nat.sub_lt_sub_left hlt (Nat.lt_succ_self i)
      have hi1 : i + 1 ≤ ml := hlt
      have hfr := hxl
      clear hxc hxl hwi hi
      have hgm := goodMv_doc xt.size m0 m1 m2 m3 HZ.out
      have k1 := rIn_any m0 0 16383
      have k2 := rIn_any m1 0 1024
      have k3 := rIn_any m2 1 1024
      have k4 := rIn_any m3 0 1024
      have hb3 : winB m2 1 1024 = true → 1 ≤ m2 ∧ m2 ≤ 1024 := fun h => by simpa [winB] using h
      have hb4 : winB m3 0 1024 = true → 0 ≤ m3 ∧ m3 ≤ 1024 := fun h => by simpa [winB] using h
      generalize winB m0 0 16383 = a1 at k1 hgm
      generalize winB m1 0 1024 = a2 at k2 hgm
      generalize winB m2 1 1024 = a3 at k3 hgm hb3
      generalize winB m3 0 1024 = a4 at k4 hgm hb4
      obtain ⟨W5, hW5⟩ : ∃ W5, W5 = wr.alloc (.cells #[.int .i64 m0, .int .i64 m1, .int .i64 m2, .int .i64 m3] 187) := ⟨_, rfl⟩
      have d0 : W5.cell? ⟨wr.heap.size, 0, none⟩ = some (.int .i64 m0) := by rw [hW5]; go_simp
      have d1 : W5.cell? ⟨wr.heap.size, 1, none⟩ = some (.int .i64 m1) := by rw [hW5]; go_simp
      have d2 : W5.cell? ⟨wr.heap.size, 2, none⟩ = some (.int .i64 m2) := by rw [hW5]; go_simp
      have d3 : W5.cell? ⟨wr.heap.size, 3, none⟩ = some (.int .i64 m3) := by rw [hW5]; go_simp
      have hB5 : Below wr.heap.size wr W5 := by rw [hW5]; exact belC (Below.refl _ _)
      have e8 := below_at hB5 c8 hol'
      have HBR5 := Lib.hid (HBr.out.trans (hB5.mono HBr.out.size))
      have HB5 := Lib.hid (HB3.out.trans (HBR5.out.mono HB3.out.size))
      have HW5 := Lib.hid hW5
      clear hW5 hB5
      cases a1
      · have HGM := Lib.hid (hgm.trans rfl)
        clear k2 k3 k4 hb3 hb4 hgm
        go_wp2_with fail
        rw [← HW5.out]
        refine (k1 _).mono ?_
        rintro e wi ⟨rfl, hq⟩
        obtain rfl := hq.symm
        go_wp2_with fail
        go_ret
        exact ⟨(show Ending.returned (Value.bool false) = _ by rw [mvAll_bad HIX.out (by rw [← HM.out]; exact HGM.out)]), by exact belC HB5.out⟩
      cases a2
      · have HGM := Lib.hid (hgm.trans rfl)
        clear k3 k4 hb3 hb4 hgm
        go_wp2_with fail
        rw [← HW5.out]
        refine (k1 _).mono ?_
        rintro e wi ⟨rfl, hq⟩
        obtain rfl := hq.symm
        go_wp2_with fail
        refine (k2 _).mono ?_
        rintro e wi ⟨rfl, hq⟩
        obtain rfl := hq.symm
        go_wp2_with fail
        go_ret
        exact ⟨(show Ending.returned (Value.bool false) = _ by rw [mvAll_bad HIX.out (by rw [← HM.out]; exact HGM.out)]), by exact belC HB5.out⟩
      cases a3
      · have HGM := Lib.hid (hgm.trans rfl)
        clear k4 hb3 hb4 hgm
        go_wp2_with fail
        rw [← HW5.out]
        refine (k1 _).mono ?_
        rintro e wi ⟨rfl, hq⟩
        obtain rfl := hq.symm
        go_wp2_with fail
        refine (k2 _).mono ?_
        rintro e wi ⟨rfl, hq⟩
        obtain rfl := hq.symm
        go_wp2_with fail
        refine (k3 _).mono ?_
        rintro e wi ⟨rfl, hq⟩
        obtain rfl := hq.symm
        go_wp2_with fail
        go_ret
        exact ⟨(show Ending.returned (Value.bool false) = _ by rw [mvAll_bad HIX.out (by rw [← HM.out]; exact HGM.out)]), by exact belC HB5.out⟩
      cases a4
      · have HGM := Lib.hid (hgm.trans rfl)
        clear hb3 hb4 hgm
        go_wp2_with fail
        rw [← HW5.out]
        refine (k1 _).mono ?_
        rintro e wi ⟨rfl, hq⟩
        obtain rfl := hq.symm
        go_wp2_with fail
        refine (k2 _).mono ?_
        rintro e wi ⟨rfl, hq⟩
        obtain rfl := hq.symm
        go_wp2_with fail
        refine (k3 _).mono ?_
        rintro e wi ⟨rfl, hq⟩
        obtain rfl := hq.symm
        go_wp2_with fail
        refine (k4 _).mono ?_
        rintro e wi ⟨rfl, hq⟩
        obtain rfl := hq.symm
        go_wp2_with fail
        go_ret
        exact ⟨(show Ending.returned (Value.bool false) = _ by rw [mvAll_bad HIX.out (by rw [← HM.out]; exact HGM.out)]), by exact belC HB5.out⟩
      have hb3 := hb3 rfl
      have hb4 := hb4 rfl
      have hwm : wrap64 (m3 + m2) = m3 + m2 := by unfold wrap64; omega
      by_cases hle : m3 + m2 ≤ (xt.size : Int)
      rotate_left 1
      · have HGM := Lib.hid (hgm.trans (by rw [decide_eq_false hle]; try rfl))
        have hgt : (xt.size : Int) < m3 + m2 := by omega
        clear hgm hle hb3 hb4
        go_wp2_with fail
        rw [← HW5.out]
        refine (k1 _).mono ?_
        rintro e wi ⟨rfl, hq⟩
        obtain rfl := hq.symm
        go_wp2_with fail
        refine (k2 _).mono ?_
        rintro e wi ⟨rfl, hq⟩
        obtain rfl := hq.symm
        go_wp2_with fail
        refine (k3 _).mono ?_
        rintro e wi ⟨rfl, hq⟩
        obtain rfl := hq.symm
        go_wp2_with fail
        refine (k4 _).mono ?_
        rintro e wi ⟨rfl, hq⟩
        obtain rfl := hq.symm
        go_wp2_with fail
        go_ret
        exact ⟨(show Ending.returned (Value.bool false) = _ by rw [mvAll_bad HIX.out (by rw [← HM.out]; exact HGM.out)]), by exact belC HB5.out⟩
      have HGM := Lib.hid (hgm.trans (by rw [decide_eq_true hle]; try rfl))
      have hng : ¬ ((xt.size : Int) < m3 + m2) := by omega
      clear hgm hle hb3 hb4
      go_wp2_with fail
      rw [← HW5.out]
      refine (k1 _).mono ?_
      rintro e wi ⟨rfl, hq⟩
      obtain rfl := hq.symm
      go_wp2_with fail
      refine (k2 _).mono ?_
      rintro e wi ⟨rfl, hq⟩
      obtain rfl := hq.symm
      go_wp2_with fail
      refine (k3 _).mono ?_
      rintro e wi ⟨rfl, hq⟩
      obtain rfl := hq.symm
      go_wp2_with fail
      refine (k4 _).mono ?_
      rintro e wi ⟨rfl, hq⟩
      obtain rfl := hq.symm
      go_wp2_with fail
      go_roundg (ml - (i + 1))
      case measure => exact hms
      case rel => exact ⟨i + 1, rfl, hi1, by first | rfl | rw [HWI.out], HBR5.out, mvAll_next HIX.out HALL.out (by rw [← HM.out]; exact HGM.out)⟩
    · obtain rfl : i = ml := Nat.le_antisymm hi (Nat.not_lt.1 hlt)
      have hge : ¬ (i : Int) < i := Int.lt_irrefl _
      have hall := HALL.out
      rw [HN.out, List.take_length] at hall
      have HAL := Lib.hid hall
      clear hlt hi hall
      go_wp2_with fail
      go_ret
      exact ⟨(show Ending.returned (Value.bool true) = _ by rw [HAL.out]), by exact belC (HB3.out.trans (HBr.out.mono HB3.out.size))⟩
set_option maxRecDepth 100000 in
set_option maxHeartbeats 8000000 in
theorem rgoodU_any (w : World) (x : OpS) (mv : List Mv) (hR : RGd w x mv) (hk : knownB x.kind = false) (h1 : winB x.client 0 7 = true) (h2 : winB x.seq 1 2147483647 = true) (h3 : x.alike x.kept = true) :
    Calls Tryz.prog 95 #[.agg x.cells.toArray] w (BoolB w false) := by
  have hin := hR.h
  have h16 := hR.l
  have hko : ∀ W, Below w.heap.size w W → Calls Tryz.prog 142 #[.agg x.cells.toArray, .agg x.kept.cells.toArray] W (BoolB W (x.alike x.kept)) := fun W hB => kOp_kept W x mv (hin.below' hB) h16
  have g1 := rIn_any x.client 0 7
  have g2 := rIn_any x.seq 1 2147483647
  rw [h1] at g1
  rw [h2] at g2
  rw [h3] at hko
  clear h1 h2 h3
  obtain ⟨xc, xs, xk, p, q, xz, xh, xo, xt, xi, xn, mp, ml, mc⟩ := x
  simp only at hk
  simp only [OpS.cells] at hko ⊢
  simp only at g1 g2
  clear hin h16 hR
  have hko' : xk ≤ 0 ∨ 15 ≤ xk := by unfold knownB at hk; by_cases a : 0 < xk <;> by_cases b : xk < 15 <;> simp [a, b] at hk <;> omega
  have u1 : ¬ (xk = 1) := by omega
  have u2 : ¬ (xk = 2) := by omega
  have u3 : ¬ (xk = 3) := by omega
  have u4 : ¬ (xk = 4) := by omega
  have u5 : ¬ (xk = 5) := by omega
  have u6 : ¬ (xk = 6) := by omega
  have u7 : ¬ (xk = 7) := by omega
  have u8 : ¬ (xk = 8) := by omega
  have u9 : ¬ (xk = 9) := by omega
  have u10 : ¬ (xk = 10) := by omega
  have u11 : ¬ (xk = 11) := by omega
  have u12 : ¬ (xk = 12) := by omega
  have u13 : ¬ (xk = 13) := by omega
  have u14 : ¬ (xk = 14) := by omega
  clear hk hko'
  obtain ⟨W1, hW1⟩ : ∃ W1, W1 = w.alloc (.cells #[.int .i64 xc, .int .i64 xs, .int .i64 xk, .string (bs p), .string (bs q), .int .i64 xz, .int .i64 xh, .int .i64 xo, .string xt, .int .i64 xi, .int .i64 xn, .slice mp ml mc] 41) := ⟨_, rfl⟩
  have hB1 : Below w.heap.size w W1 := by rw [hW1]; exact belC (Below.refl _ _)
  have c0 : W1.cell? ⟨w.heap.size, 0, none⟩ = some (.int .i64 xc) := by rw [hW1]; go_simp
  have c1 : W1.cell? ⟨w.heap.size, 1, none⟩ = some (.int .i64 xs) := by rw [hW1]; go_simp
  have c2 : W1.cell? ⟨w.heap.size, 2, none⟩ = some (.int .i64 xk) := by rw [hW1]; go_simp
  have c3 : W1.cell? ⟨w.heap.size, 3, none⟩ = some (.string (bs p)) := by rw [hW1]; go_simp
  have c4 : W1.cell? ⟨w.heap.size, 4, none⟩ = some (.string (bs q)) := by rw [hW1]; go_simp
  have c5 : W1.cell? ⟨w.heap.size, 5, none⟩ = some (.int .i64 xz) := by rw [hW1]; go_simp
  have c6 : W1.cell? ⟨w.heap.size, 6, none⟩ = some (.int .i64 xh) := by rw [hW1]; go_simp
  have c7 : W1.cell? ⟨w.heap.size, 7, none⟩ = some (.int .i64 xo) := by rw [hW1]; go_simp
  have c8 : W1.cell? ⟨w.heap.size, 8, none⟩ = some (.string xt) := by rw [hW1]; go_simp
  have c9 : W1.cell? ⟨w.heap.size, 9, none⟩ = some (.int .i64 xi) := by rw [hW1]; go_simp
  have c10 : W1.cell? ⟨w.heap.size, 10, none⟩ = some (.int .i64 xn) := by rw [hW1]; go_simp
  have c11 : W1.cell? ⟨w.heap.size, 11, none⟩ = some (.slice mp ml mc) := by rw [hW1]; go_simp
  have hol := cell_lt c0
  have HW1 := Lib.hid hW1
  have HB1 := Lib.hid hB1
  clear hW1 hB1
  go_enter Tryz.func95, Tryz.ntmps95
  go_wp2_with fail
  rw [← HW1.out]
  refine wp_region_held_drew (S := (fun W' => W'.cell? ⟨w.heap.size, 0, none⟩ = some (.int .i64 xc) ∧ W'.cell? ⟨w.heap.size, 1, none⟩ = some (.int .i64 xs) ∧ W'.cell? ⟨w.heap.size, 2, none⟩ = some (.int .i64 xk) ∧ W'.cell? ⟨w.heap.size, 3, none⟩ = some (.string (bs p)) ∧ W'.cell? ⟨w.heap.size, 4, none⟩ = some (.string (bs q)) ∧ W'.cell? ⟨w.heap.size, 5, none⟩ = some (.int .i64 xz) ∧ W'.cell? ⟨w.heap.size, 6, none⟩ = some (.int .i64 xh) ∧ W'.cell? ⟨w.heap.size, 7, none⟩ = some (.int .i64 xo) ∧ W'.cell? ⟨w.heap.size, 8, none⟩ = some (.string xt) ∧ W'.cell? ⟨w.heap.size, 9, none⟩ = some (.int .i64 xi) ∧ W'.cell? ⟨w.heap.size, 10, none⟩ = some (.int .i64 xn) ∧ W'.cell? ⟨w.heap.size, 11, none⟩ = some (.slice mp ml mc))) (by kernel_rfl) ⟨c0, c1, c2, c3, c4, c5, c6, c7, c8, c9, c10, c11⟩ (fun hHeld => ?_)
  refine takeL 0 ?_
  refine takeL 1 ?_
  refine wpAnyH_ready (rs := [2]) (by kernel_rfl) (by simp) ?_
  refine AllReadyH.cons (o := _) rfl (fun K hK => ?_) AllReadyH.nil
  go_simp
  refine (g1 _).mono ?_
  rintro e wi ⟨rfl, hq⟩
  obtain rfl := hq.symm
  try go_wp2_with fail
  refine hK.out _ _ ⟨c0, c1, c2, c3, c4, c5, c6, c7, c8, c9, c10, c11⟩ (fun hHeld => ?_)
  clear hK K
  try simp only [Act.put, List.setIfInBounds_toArray, List.set_cons_zero, List.set_cons_succ]
  refine takeL 3 ?_
  refine takeL 4 ?_
  refine takeL 5 ?_
  refine takeL 6 ?_
  refine wpAnyH_ready (rs := [7]) (by kernel_rfl) (by simp) ?_
  refine AllReadyH.cons (o := _) rfl (fun K hK => ?_) AllReadyH.nil
  go_simp
  refine (g2 _).mono ?_
  rintro e wi ⟨rfl, hq⟩
  obtain rfl := hq.symm
  try go_wp2_with fail
  refine hK.out _ _ ⟨c0, c1, c2, c3, c4, c5, c6, c7, c8, c9, c10, c11⟩ (fun hHeld => ?_)
  clear hK K
  try simp only [Act.put, List.setIfInBounds_toArray, List.set_cons_zero, List.set_cons_succ]
  refine takeL 8 ?_
  refine takeL 9 ?_
  refine takeL 10 ?_
  refine takeL 11 ?_
  refine takeL 12 ?_
  refine wpAnyH_ready (rs := [13]) (by kernel_rfl) (by simp) ?_
  refine AllReadyH.cons (o := _) rfl (fun K hK => ?_) AllReadyH.nil
  go_simp
  refine (only_any _ ⟨xc, xs, xk, p, q, xz, xh, xo, xt, xi, xn, mp, ml, mc⟩).mono ?_
  rintro e w2 ⟨rfl, hB2'⟩
  have hB2 : Below W1.heap.size W1 w2 := ⟨hB2'.os, hB2'.tape, hB2'.output, hB2'.size, hB2'.block⟩
  have c0 := below_at hB2 c0 hol
  have c1 := below_at hB2 c1 hol
  have c2 := below_at hB2 c2 hol
  have c3 := below_at hB2 c3 hol
  have c4 := below_at hB2 c4 hol
  have c5 := below_at hB2 c5 hol
  have c6 := below_at hB2 c6 hol
  have c7 := below_at hB2 c7 hol
  have c8 := below_at hB2 c8 hol
  have c9 := below_at hB2 c9 hol
  have c10 := below_at hB2 c10 hol
  have c11 := below_at hB2 c11 hol
  have hol := cell_lt c0
  have HB2 := Lib.hid (HB1.out.trans (hB2.mono HB1.out.size))
  clear hB2 hB2'
  try go_wp2_with fail
  refine hK.out _ _ ⟨c0, c1, c2, c3, c4, c5, c6, c7, c8, c9, c10, c11⟩ (fun hHeld => ?_)
  clear hK K
  try simp only [Act.put, List.setIfInBounds_toArray, List.set_cons_zero, List.set_cons_succ]
  refine wpAnyH_ready (rs := [14]) (by kernel_rfl) (by simp) ?_
  refine AllReadyH.cons (o := _) rfl (fun K hK => ?_) AllReadyH.nil
  go_simp
  refine (hko _ HB2.out).mono ?_
  rintro e w3 ⟨rfl, hB3⟩
  have c0 := below_at hB3 c0 hol
  have c1 := below_at hB3 c1 hol
  have c2 := below_at hB3 c2 hol
  have c3 := below_at hB3 c3 hol
  have c4 := below_at hB3 c4 hol
  have c5 := below_at hB3 c5 hol
  have c6 := below_at hB3 c6 hol
  have c7 := below_at hB3 c7 hol
  have c8 := below_at hB3 c8 hol
  have c9 := below_at hB3 c9 hol
  have c10 := below_at hB3 c10 hol
  have c11 := below_at hB3 c11 hol
  have hol := cell_lt c0
  have HB3 := Lib.hid (HB2.out.trans (hB3.mono HB2.out.size))
  clear hB3
  try go_wp2_with fail
  refine hK.out _ _ ⟨c0, c1, c2, c3, c4, c5, c6, c7, c8, c9, c10, c11⟩ (fun hHeld => ?_)
  clear hK K
  try simp only [Act.put, List.setIfInBounds_toArray, List.set_cons_zero, List.set_cons_succ]
  refine takeL 15 ?_
  refine takeL 16 ?_
  refine wpAnyH_done (by kernel_rfl) ?_ _
  clear hHeld
  go_wp2_with fail
  go_ret
  exact ⟨rfl, by exact belC HB3.out⟩
end Go.Proofs.YtpiogibkleaaaaaGreatDoor
