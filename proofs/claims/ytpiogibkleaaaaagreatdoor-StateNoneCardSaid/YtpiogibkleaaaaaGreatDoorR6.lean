/- the document's records: in, Only -/
import Derived.Test.YtpiogibkleaaaaaGreatDoorPkOpB
namespace Go.Proofs.YtpiogibkleaaaaaGreatDoor
open Go.RowKit Esch

set_option linter.unusedSimpArgs false
theorem rIn_any (n a b : Int) (w : World) : Calls Tryz.prog 141 #[.int .i64 n, .int .i64 a, .int .i64 b] w fun e w' => e = .returned (.bool (winB n a b)) ∧ w' = w := by
  go_enter Tryz.func141, Tryz.ntmps141
  go_wp2
  all_goals
    go_ret
    refine ⟨?_, rfl⟩
    unfold winB
    first | (simp [*]; done) | (simp; omega)
set_option maxRecDepth 100000 in
set_option maxHeartbeats 4000000 in
theorem only1_any (w : World) (x : OpS) (hk : x.kind = 1) : Calls Tryz.prog 143 #[.agg x.cells.toArray] w fun e w' => e = .returned (.agg x.kept.cells.toArray) ∧ Below w.heap.size w w' := by
  have hkp : x.kept.cells.toArray = #[.int .i64 x.client, .int .i64 x.seq, .int .i64 1, .string (bs x.path), .string ⟨#[]⟩, .int .i64 0, .int .i64 0, .int .i64 0, .string ⟨#[]⟩, .int .i64 0, .int .i64 0, .slice none 0 0] := by
    obtain ⟨xc, xs, xk, p, q, xz, xh, xo, xt, xi, xn, mp, ml, mc⟩ := x
    simp only at hk
    subst hk
    rfl
  rw [hkp]
  clear hkp
  obtain ⟨xc, xs, xk, p, q, xz, xh, xo, xt, xi, xn, mp, ml, mc⟩ := x
  simp only at hk
  subst hk
  simp only [OpS.cells]
  go_enter Tryz.func143, Tryz.ntmps143
  go_wp2_with fail
  refine bodyPost_ret (v := .agg #[.int .i64 xc, .int .i64 xs, .int .i64 1, .string (bs p), .string ⟨#[]⟩, .int .i64 0, .int .i64 0, .int .i64 0, .string ⟨#[]⟩, .int .i64 0, .int .i64 0, .slice none 0 0]) (by simp [results, Tryz.results143, go_sem, *]) rfl ?_
  exact ⟨rfl, by exact belC (Below.refl _ _)⟩
set_option maxRecDepth 100000 in
set_option maxHeartbeats 4000000 in
theorem only2_any (w : World) (x : OpS) (hk : x.kind = 2) : Calls Tryz.prog 143 #[.agg x.cells.toArray] w fun e w' => e = .returned (.agg x.kept.cells.toArray) ∧ Below w.heap.size w w' := by
  have hkp : x.kept.cells.toArray = #[.int .i64 x.client, .int .i64 x.seq, .int .i64 2, .string (bs x.path), .string ⟨#[]⟩, .int .i64 0, .int .i64 0, .int .i64 0, .string ⟨#[]⟩, .int .i64 0, .int .i64 0, .slice none 0 0] := by
    obtain ⟨xc, xs, xk, p, q, xz, xh, xo, xt, xi, xn, mp, ml, mc⟩ := x
    simp only at hk
    subst hk
    rfl
  rw [hkp]
  clear hkp
  obtain ⟨xc, xs, xk, p, q, xz, xh, xo, xt, xi, xn, mp, ml, mc⟩ := x
  simp only at hk
  subst hk
  simp only [OpS.cells]
  go_enter Tryz.func143, Tryz.ntmps143
  go_wp2_with fail
  refine bodyPost_ret (v := .agg #[.int .i64 xc, .int .i64 xs, .int .i64 2, .string (bs p), .string ⟨#[]⟩, .int .i64 0, .int .i64 0, .int .i64 0, .string ⟨#[]⟩, .int .i64 0, .int .i64 0, .slice none 0 0]) (by simp [results, Tryz.results143, go_sem, *]) rfl ?_
  exact ⟨rfl, by exact belC (Below.refl _ _)⟩
set_option maxRecDepth 100000 in
set_option maxHeartbeats 4000000 in
theorem only3_any (w : World) (x : OpS) (hk : x.kind = 3) : Calls Tryz.prog 143 #[.agg x.cells.toArray] w fun e w' => e = .returned (.agg x.kept.cells.toArray) ∧ Below w.heap.size w w' := by
  have hkp : x.kept.cells.toArray = #[.int .i64 x.client, .int .i64 x.seq, .int .i64 3, .string (bs x.path), .string ⟨#[]⟩, .int .i64 0, .int .i64 0, .int .i64 0, .string ⟨#[]⟩, .int .i64 0, .int .i64 0, .slice none 0 0] := by
    obtain ⟨xc, xs, xk, p, q, xz, xh, xo, xt, xi, xn, mp, ml, mc⟩ := x
    simp only at hk
    subst hk
    rfl
  rw [hkp]
  clear hkp
  obtain ⟨xc, xs, xk, p, q, xz, xh, xo, xt, xi, xn, mp, ml, mc⟩ := x
  simp only at hk
  subst hk
  simp only [OpS.cells]
  go_enter Tryz.func143, Tryz.ntmps143
  go_wp2_with fail
  refine bodyPost_ret (v := .agg #[.int .i64 xc, .int .i64 xs, .int .i64 3, .string (bs p), .string ⟨#[]⟩, .int .i64 0, .int .i64 0, .int .i64 0, .string ⟨#[]⟩, .int .i64 0, .int .i64 0, .slice none 0 0]) (by simp [results, Tryz.results143, go_sem, *]) rfl ?_
  exact ⟨rfl, by exact belC (Below.refl _ _)⟩
set_option maxRecDepth 100000 in
set_option maxHeartbeats 4000000 in
theorem only4_any (w : World) (x : OpS) (hk : x.kind = 4) : Calls Tryz.prog 143 #[.agg x.cells.toArray] w fun e w' => e = .returned (.agg x.kept.cells.toArray) ∧ Below w.heap.size w w' := by
  have hkp : x.kept.cells.toArray = #[.int .i64 x.client, .int .i64 x.seq, .int .i64 4, .string (bs x.path), .string (bs x.dest), .int .i64 0, .int .i64 0, .int .i64 0, .string ⟨#[]⟩, .int .i64 0, .int .i64 0, .slice none 0 0] := by
    obtain ⟨xc, xs, xk, p, q, xz, xh, xo, xt, xi, xn, mp, ml, mc⟩ := x
    simp only at hk
    subst hk
    rfl
  rw [hkp]
  clear hkp
  obtain ⟨xc, xs, xk, p, q, xz, xh, xo, xt, xi, xn, mp, ml, mc⟩ := x
  simp only at hk
  subst hk
  simp only [OpS.cells]
  go_enter Tryz.func143, Tryz.ntmps143
  go_wp2_with fail
  go_region
  all_goals
    go_wp2_with fail
    refine bodyPost_ret (v := .agg #[.int .i64 xc, .int .i64 xs, .int .i64 4, .string (bs p), .string (bs q), .int .i64 0, .int .i64 0, .int .i64 0, .string ⟨#[]⟩, .int .i64 0, .int .i64 0, .slice none 0 0]) (by simp [results, Tryz.results143, go_sem, *]) rfl ?_
    exact ⟨rfl, by exact belC (Below.refl _ _)⟩
set_option maxRecDepth 100000 in
set_option maxHeartbeats 4000000 in
theorem only5_any (w : World) (x : OpS) (hk : x.kind = 5) : Calls Tryz.prog 143 #[.agg x.cells.toArray] w fun e w' => e = .returned (.agg x.kept.cells.toArray) ∧ Below w.heap.size w w' := by
  have hkp : x.kept.cells.toArray = #[.int .i64 x.client, .int .i64 x.seq, .int .i64 5, .string (bs x.path), .string ⟨#[]⟩, .int .i64 0, .int .i64 0, .int .i64 0, .string ⟨#[]⟩, .int .i64 0, .int .i64 0, .slice none 0 0] := by
    obtain ⟨xc, xs, xk, p, q, xz, xh, xo, xt, xi, xn, mp, ml, mc⟩ := x
    simp only at hk
    subst hk
    rfl
  rw [hkp]
  clear hkp
  obtain ⟨xc, xs, xk, p, q, xz, xh, xo, xt, xi, xn, mp, ml, mc⟩ := x
  simp only at hk
  subst hk
  simp only [OpS.cells]
  go_enter Tryz.func143, Tryz.ntmps143
  go_wp2_with fail
  refine bodyPost_ret (v := .agg #[.int .i64 xc, .int .i64 xs, .int .i64 5, .string (bs p), .string ⟨#[]⟩, .int .i64 0, .int .i64 0, .int .i64 0, .string ⟨#[]⟩, .int .i64 0, .int .i64 0, .slice none 0 0]) (by simp [results, Tryz.results143, go_sem, *]) rfl ?_
  exact ⟨rfl, by exact belC (Below.refl _ _)⟩
set_option maxRecDepth 100000 in
set_option maxHeartbeats 4000000 in
theorem only6_any (w : World) (x : OpS) (hk : x.kind = 6) : Calls Tryz.prog 143 #[.agg x.cells.toArray] w fun e w' => e = .returned (.agg x.kept.cells.toArray) ∧ Below w.heap.size w w' := by
  have hkp : x.kept.cells.toArray = #[.int .i64 x.client, .int .i64 x.seq, .int .i64 6, .string (bs x.path), .string (bs x.dest), .int .i64 0, .int .i64 0, .int .i64 0, .string ⟨#[]⟩, .int .i64 0, .int .i64 0, .slice none 0 0] := by
    obtain ⟨xc, xs, xk, p, q, xz, xh, xo, xt, xi, xn, mp, ml, mc⟩ := x
    simp only at hk
    subst hk
    rfl
  rw [hkp]
  clear hkp
  obtain ⟨xc, xs, xk, p, q, xz, xh, xo, xt, xi, xn, mp, ml, mc⟩ := x
  simp only at hk
  subst hk
  simp only [OpS.cells]
  go_enter Tryz.func143, Tryz.ntmps143
  go_wp2_with fail
  go_region
  all_goals
    go_wp2_with fail
    refine bodyPost_ret (v := .agg #[.int .i64 xc, .int .i64 xs, .int .i64 6, .string (bs p), .string (bs q), .int .i64 0, .int .i64 0, .int .i64 0, .string ⟨#[]⟩, .int .i64 0, .int .i64 0, .slice none 0 0]) (by simp [results, Tryz.results143, go_sem, *]) rfl ?_
    exact ⟨rfl, by exact belC (Below.refl _ _)⟩
set_option maxRecDepth 100000 in
set_option maxHeartbeats 4000000 in
theorem only7_any (w : World) (x : OpS) (hk : x.kind = 7) : Calls Tryz.prog 143 #[.agg x.cells.toArray] w fun e w' => e = .returned (.agg x.kept.cells.toArray) ∧ Below w.heap.size w w' := by
  have hkp : x.kept.cells.toArray = #[.int .i64 x.client, .int .i64 x.seq, .int .i64 7, .string (bs x.path), .string ⟨#[]⟩, .int .i64 x.size, .int .i64 0, .int .i64 0, .string ⟨#[]⟩, .int .i64 0, .int .i64 0, .slice none 0 0] := by
    obtain ⟨xc, xs, xk, p, q, xz, xh, xo, xt, xi, xn, mp, ml, mc⟩ := x
    simp only at hk
    subst hk
    rfl
  rw [hkp]
  clear hkp
  obtain ⟨xc, xs, xk, p, q, xz, xh, xo, xt, xi, xn, mp, ml, mc⟩ := x
  simp only at hk
  subst hk
  simp only [OpS.cells]
  go_enter Tryz.func143, Tryz.ntmps143
  go_wp2_with fail
  go_region
  all_goals
    go_wp2_with fail
    refine bodyPost_ret (v := .agg #[.int .i64 xc, .int .i64 xs, .int .i64 7, .string (bs p), .string ⟨#[]⟩, .int .i64 xz, .int .i64 0, .int .i64 0, .string ⟨#[]⟩, .int .i64 0, .int .i64 0, .slice none 0 0]) (by simp [results, Tryz.results143, go_sem, *]) rfl ?_
    exact ⟨rfl, by exact belC (Below.refl _ _)⟩
set_option maxRecDepth 100000 in
set_option maxHeartbeats 4000000 in
theorem only8_any (w : World) (x : OpS) (hk : x.kind = 8) : Calls Tryz.prog 143 #[.agg x.cells.toArray] w fun e w' => e = .returned (.agg x.kept.cells.toArray) ∧ Below w.heap.size w w' := by
  have hkp : x.kept.cells.toArray = #[.int .i64 x.client, .int .i64 x.seq, .int .i64 8, .string (bs x.path), .string ⟨#[]⟩, .int .i64 0, .int .i64 0, .int .i64 0, .string ⟨#[]⟩, .int .i64 0, .int .i64 0, .slice none 0 0] := by
    obtain ⟨xc, xs, xk, p, q, xz, xh, xo, xt, xi, xn, mp, ml, mc⟩ := x
    simp only at hk
    subst hk
    rfl
  rw [hkp]
  clear hkp
  obtain ⟨xc, xs, xk, p, q, xz, xh, xo, xt, xi, xn, mp, ml, mc⟩ := x
  simp only at hk
  subst hk
  simp only [OpS.cells]
  go_enter Tryz.func143, Tryz.ntmps143
  go_wp2_with fail
  refine bodyPost_ret (v := .agg #[.int .i64 xc, .int .i64 xs, .int .i64 8, .string (bs p), .string ⟨#[]⟩, .int .i64 0, .int .i64 0, .int .i64 0, .string ⟨#[]⟩, .int .i64 0, .int .i64 0, .slice none 0 0]) (by simp [results, Tryz.results143, go_sem, *]) rfl ?_
  exact ⟨rfl, by exact belC (Below.refl _ _)⟩
set_option maxRecDepth 100000 in
set_option maxHeartbeats 4000000 in
theorem only9_any (w : World) (x : OpS) (hk : x.kind = 9) : Calls Tryz.prog 143 #[.agg x.cells.toArray] w fun e w' => e = .returned (.agg x.kept.cells.toArray) ∧ Below w.heap.size w w' := by
  have hkp : x.kept.cells.toArray = #[.int .i64 x.client, .int .i64 x.seq, .int .i64 9, .string ⟨#[]⟩, .string ⟨#[]⟩, .int .i64 0, .int .i64 x.hd, .int .i64 0, .string ⟨#[]⟩, .int .i64 0, .int .i64 0, .slice none 0 0] := by
    obtain ⟨xc, xs, xk, p, q, xz, xh, xo, xt, xi, xn, mp, ml, mc⟩ := x
    simp only at hk
    subst hk
    rfl
  rw [hkp]
  clear hkp
  obtain ⟨xc, xs, xk, p, q, xz, xh, xo, xt, xi, xn, mp, ml, mc⟩ := x
  simp only at hk
  subst hk
  simp only [OpS.cells]
  go_enter Tryz.func143, Tryz.ntmps143
  go_wp2_with fail
  refine bodyPost_ret (v := .agg #[.int .i64 xc, .int .i64 xs, .int .i64 9, .string ⟨#[]⟩, .string ⟨#[]⟩, .int .i64 0, .int .i64 xh, .int .i64 0, .string ⟨#[]⟩, .int .i64 0, .int .i64 0, .slice none 0 0]) (by simp [results, Tryz.results143, go_sem, *]) rfl ?_
  exact ⟨rfl, by exact belC (Below.refl _ _)⟩
set_option maxRecDepth 100000 in
set_option maxHeartbeats 4000000 in
theorem only10_any (w : World) (x : OpS) (hk : x.kind = 10) : Calls Tryz.prog 143 #[.agg x.cells.toArray] w fun e w' => e = .returned (.agg x.kept.cells.toArray) ∧ Below w.heap.size w w' := by
  have hkp : x.kept.cells.toArray = #[.int .i64 x.client, .int .i64 x.seq, .int .i64 10, .string ⟨#[]⟩, .string ⟨#[]⟩, .int .i64 0, .int .i64 x.hd, .int .i64 x.off, .string x.data, .int .i64 0, .int .i64 0, .slice none 0 0] := by
    obtain ⟨xc, xs, xk, p, q, xz, xh, xo, xt, xi, xn, mp, ml, mc⟩ := x
    simp only at hk
    subst hk
    rfl
  rw [hkp]
  clear hkp
  obtain ⟨xc, xs, xk, p, q, xz, xh, xo, xt, xi, xn, mp, ml, mc⟩ := x
  simp only at hk
  subst hk
  simp only [OpS.cells]
  go_enter Tryz.func143, Tryz.ntmps143
  go_wp2_with fail
  go_region
  all_goals
    go_wp2_with fail
    refine bodyPost_ret (v := .agg #[.int .i64 xc, .int .i64 xs, .int .i64 10, .string ⟨#[]⟩, .string ⟨#[]⟩, .int .i64 0, .int .i64 xh, .int .i64 xo, .string xt, .int .i64 0, .int .i64 0, .slice none 0 0]) (by simp [results, Tryz.results143, go_sem, *]) rfl ?_
    exact ⟨rfl, by exact belC (Below.refl _ _)⟩
set_option maxRecDepth 100000 in
set_option maxHeartbeats 4000000 in
theorem only11_any (w : World) (x : OpS) (hk : x.kind = 11) : Calls Tryz.prog 143 #[.agg x.cells.toArray] w fun e w' => e = .returned (.agg x.kept.cells.toArray) ∧ Below w.heap.size w w' := by
  have hkp : x.kept.cells.toArray = #[.int .i64 x.client, .int .i64 x.seq, .int .i64 11, .string ⟨#[]⟩, .string ⟨#[]⟩, .int .i64 0, .int .i64 0, .int .i64 0, .string ⟨#[]⟩, .int .i64 x.tick, .int .i64 0, .slice none 0 0] := by
    obtain ⟨xc, xs, xk, p, q, xz, xh, xo, xt, xi, xn, mp, ml, mc⟩ := x
    simp only at hk
    subst hk
    rfl
  rw [hkp]
  clear hkp
  obtain ⟨xc, xs, xk, p, q, xz, xh, xo, xt, xi, xn, mp, ml, mc⟩ := x
  simp only at hk
  subst hk
  simp only [OpS.cells]
  go_enter Tryz.func143, Tryz.ntmps143
  go_wp2_with fail
  refine bodyPost_ret (v := .agg #[.int .i64 xc, .int .i64 xs, .int .i64 11, .string ⟨#[]⟩, .string ⟨#[]⟩, .int .i64 0, .int .i64 0, .int .i64 0, .string ⟨#[]⟩, .int .i64 xi, .int .i64 0, .slice none 0 0]) (by simp [results, Tryz.results143, go_sem, *]) rfl ?_
  exact ⟨rfl, by exact belC (Below.refl _ _)⟩
set_option maxRecDepth 100000 in
set_option maxHeartbeats 4000000 in
theorem only12_any (w : World) (x : OpS) (hk : x.kind = 12) : Calls Tryz.prog 143 #[.agg x.cells.toArray] w fun e w' => e = .returned (.agg x.kept.cells.toArray) ∧ Below w.heap.size w w' := by
  have hkp : x.kept.cells.toArray = #[.int .i64 x.client, .int .i64 x.seq, .int .i64 12, .string ⟨#[]⟩, .string ⟨#[]⟩, .int .i64 0, .int .i64 0, .int .i64 0, .string ⟨#[]⟩, .int .i64 x.tick, .int .i64 0, .slice none 0 0] := by
    obtain ⟨xc, xs, xk, p, q, xz, xh, xo, xt, xi, xn, mp, ml, mc⟩ := x
    simp only at hk
    subst hk
    rfl
  rw [hkp]
  clear hkp
  obtain ⟨xc, xs, xk, p, q, xz, xh, xo, xt, xi, xn, mp, ml, mc⟩ := x
  simp only at hk
  subst hk
  simp only [OpS.cells]
  go_enter Tryz.func143, Tryz.ntmps143
  go_wp2_with fail
  refine bodyPost_ret (v := .agg #[.int .i64 xc, .int .i64 xs, .int .i64 12, .string ⟨#[]⟩, .string ⟨#[]⟩, .int .i64 0, .int .i64 0, .int .i64 0, .string ⟨#[]⟩, .int .i64 xi, .int .i64 0, .slice none 0 0]) (by simp [results, Tryz.results143, go_sem, *]) rfl ?_
  exact ⟨rfl, by exact belC (Below.refl _ _)⟩
set_option maxRecDepth 100000 in
set_option maxHeartbeats 4000000 in
theorem only13_any (w : World) (x : OpS) (hk : x.kind = 13) : Calls Tryz.prog 143 #[.agg x.cells.toArray] w fun e w' => e = .returned (.agg x.kept.cells.toArray) ∧ Below w.heap.size w w' := by
  have hkp : x.kept.cells.toArray = #[.int .i64 x.client, .int .i64 x.seq, .int .i64 13, .string ⟨#[]⟩, .string ⟨#[]⟩, .int .i64 0, .int .i64 0, .int .i64 0, .string x.data, .int .i64 0, .int .i64 x.ino, .slice x.mp x.ml x.mc] := by
    obtain ⟨xc, xs, xk, p, q, xz, xh, xo, xt, xi, xn, mp, ml, mc⟩ := x
    simp only at hk
    subst hk
    rfl
  rw [hkp]
  clear hkp
  obtain ⟨xc, xs, xk, p, q, xz, xh, xo, xt, xi, xn, mp, ml, mc⟩ := x
  simp only at hk
  subst hk
  simp only [OpS.cells]
  go_enter Tryz.func143, Tryz.ntmps143
  go_wp2_with fail
  go_region
  all_goals
    go_wp2_with fail
    refine bodyPost_ret (v := .agg #[.int .i64 xc, .int .i64 xs, .int .i64 13, .string ⟨#[]⟩, .string ⟨#[]⟩, .int .i64 0, .int .i64 0, .int .i64 0, .string xt, .int .i64 0, .int .i64 xn, .slice mp ml mc]) (by simp [results, Tryz.results143, go_sem, *]) rfl ?_
    exact ⟨rfl, by exact belC (Below.refl _ _)⟩
set_option maxRecDepth 100000 in
set_option maxHeartbeats 4000000 in
theorem only14_any (w : World) (x : OpS) (hk : x.kind = 14) : Calls Tryz.prog 143 #[.agg x.cells.toArray] w fun e w' => e = .returned (.agg x.kept.cells.toArray) ∧ Below w.heap.size w w' := by
  have hkp : x.kept.cells.toArray = #[.int .i64 x.client, .int .i64 x.seq, .int .i64 14, .string ⟨#[]⟩, .string ⟨#[]⟩, .int .i64 x.size, .int .i64 0, .int .i64 x.off, .string x.data, .int .i64 0, .int .i64 0, .slice none 0 0] := by
    obtain ⟨xc, xs, xk, p, q, xz, xh, xo, xt, xi, xn, mp, ml, mc⟩ := x
    simp only at hk
    subst hk
    rfl
  rw [hkp]
  clear hkp
  obtain ⟨xc, xs, xk, p, q, xz, xh, xo, xt, xi, xn, mp, ml, mc⟩ := x
  simp only at hk
  subst hk
  simp only [OpS.cells]
  go_enter Tryz.func143, Tryz.ntmps143
  go_wp2_with fail
  go_region
  all_goals
    go_wp2_with fail
    refine bodyPost_ret (v := .agg #[.int .i64 xc, .int .i64 xs, .int .i64 14, .string ⟨#[]⟩, .string ⟨#[]⟩, .int .i64 xz, .int .i64 0, .int .i64 xo, .string xt, .int .i64 0, .int .i64 0, .slice none 0 0]) (by simp [results, Tryz.results143, go_sem, *]) rfl ?_
    exact ⟨rfl, by exact belC (Below.refl _ _)⟩
theorem kept_no (x : OpS) (hk : x.kind < 1 ∨ 14 < x.kind) : x.kept = opN x.client x.seq x.kind := by
  unfold OpS.kept
  have : fldL x.kind.toNat = [] := by
    by_cases h : x.kind < 1
    · rw [show x.kind.toNat = 0 by omega]; rfl
    · unfold fldL
      rw [List.getD_eq_getElem?_getD, List.getElem?_eq_none (by simp; omega)]
      rfl
  rw [this]
  rfl
set_option maxRecDepth 100000 in
set_option maxHeartbeats 4000000 in
theorem only0_any (w : World) (x : OpS) (hk : x.kind < 1 ∨ 14 < x.kind) : Calls Tryz.prog 143 #[.agg x.cells.toArray] w fun e w' => e = .returned (.agg x.kept.cells.toArray) ∧ Below w.heap.size w w' := by
  rw [kept_no x hk]
  obtain ⟨xc, xs, xk, p, q, xz, xh, xo, xt, xi, xn, mp, ml, mc⟩ := x
  simp only at hk ⊢
  have n1 : (xk == 1) = false := by simp; omega
  have n2 : (xk == 2) = false := by simp; omega
  have n3 : (xk == 3) = false := by simp; omega
  have n4 : (xk == 4) = false := by simp; omega
  have n5 : (xk == 5) = false := by simp; omega
  have n6 : (xk == 6) = false := by simp; omega
  have n7 : (xk == 7) = false := by simp; omega
  have n8 : (xk == 8) = false := by simp; omega
  have n9 : (xk == 9) = false := by simp; omega
  have n10 : (xk == 10) = false := by simp; omega
  have n11 : (xk == 11) = false := by simp; omega
  have n12 : (xk == 12) = false := by simp; omega
  have n13 : (xk == 13) = false := by simp; omega
  have n14 : (xk == 14) = false := by simp; omega
  clear hk
  simp only [OpS.cells, opN]
  go_enter Tryz.func143, Tryz.ntmps143
  go_wp2_with fail
  refine bodyPost_ret (v := .agg #[.int .i64 xc, .int .i64 xs, .int .i64 xk, .string ⟨#[]⟩, .string ⟨#[]⟩, .int .i64 0, .int .i64 0, .int .i64 0, .string ⟨#[]⟩, .int .i64 0, .int .i64 0, .slice none 0 0]) (by simp [results, Tryz.results143, go_sem, *]) rfl ?_
  exact ⟨rfl, by exact belC (Below.refl _ _)⟩
theorem only_any (w : World) (x : OpS) : Calls Tryz.prog 143 #[.agg x.cells.toArray] w fun e w' => e = .returned (.agg x.kept.cells.toArray) ∧ Below w.heap.size w w' := by
  by_cases h : x.kind < 1 ∨ 14 < x.kind
  · exact only0_any w x h
  have h14 : x.kind = 1 ∨ x.kind = 2 ∨ x.kind = 3 ∨ x.kind = 4 ∨ x.kind = 5 ∨ x.kind = 6 ∨ x.kind = 7 ∨ x.kind = 8 ∨ x.kind = 9 ∨ x.kind = 10 ∨ x.kind = 11 ∨ x.kind = 12 ∨ x.kind = 13 ∨ x.kind = 14 := by omega
  rcases h14 with h | h | h | h | h | h | h | h | h | h | h | h | h | h
  · exact only1_any w x h
  · exact only2_any w x h
  · exact only3_any w x h
  · exact only4_any w x h
  · exact only5_any w x h
  · exact only6_any w x h
  · exact only7_any w x h
  · exact only8_any w x h
  · exact only9_any w x h
  · exact only10_any w x h
  · exact only11_any w x h
  · exact only12_any w x h
  · exact only13_any w x h
  · exact only14_any w x h
end Go.Proofs.YtpiogibkleaaaaaGreatDoor
