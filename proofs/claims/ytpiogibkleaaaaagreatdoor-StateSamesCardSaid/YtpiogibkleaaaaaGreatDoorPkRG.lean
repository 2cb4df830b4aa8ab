import Derived.Test.YtpiogibkleaaaaaGreatDoorPkOpB
import Derived.Test.YtpiogibkleaaaaaGreatDoorPkOpA
/- the document's records: in, Only -/
namespace Go.Proofs.YtpiogibkleaaaaaGreatDoor
open Go.RowKit Esch

set_option linter.unusedSimpArgs false
theorem rIn_any (n a b : Int) (w : World) : Calls Tryz.prog 141 #[.int .i64 n, .int .i64 a, .int .i64 b] w fun e w' => e = .returned (.bool (winB n a b)) ∧ w' = w := by
  go_enter Tryz.func141, Tryz.ntmps141
  go_wp2
  all_goals
    go_ret
    refine ⟨?_, rfl⟩
    unfold winB
    first | (simp [*]; done) | (simp; omega)
set_option maxRecDepth 100000 in
set_option maxHeartbeats 4000000 in
theorem only1_any (w : World) (x : OpS) (hk : x.kind = 1) : Calls Tryz.prog 143 #[.agg x.cells.toArray] w fun e w' => e = .returned (.agg x.kept.cells.toArray) ∧ Below w.heap.size w w' := by
  have hkp : x.kept.cells.toArray = #[.int .i64 x.client, .int .i64 x.seq, .int .i64 1, .string (bs x.path), .string ⟨#[]⟩, .int .i64 0, .int .i64 0, .int .i64 0, .string ⟨#[]⟩, .int .i64 0, .int .i64 0, .slice none 0 0] := by
    obtain ⟨xc, xs, xk, p, q, xz, xh, xo, xt, xi, xn, mp, ml, mc⟩ := x
    simp only at hk
    subst hk
    rfl
  rw [hkp]
  clear hkp
  obtain ⟨xc, xs, xk, p, q, xz, xh, xo, xt, xi, xn, mp, ml, mc⟩ := x
  simp only at hk
  subst hk
  simp only [OpS.cells]
  go_enter Tryz.func143, Tryz.ntmps143
  go_wp2_with fail
  refine bodyPost_ret (v := .agg #[.int .i64 xc, .int .i64 xs, .int .i64 1, .string (bs p), .string ⟨#[]⟩, .int .i64 0, .int .i64 0, .int .i64 0, .string ⟨#[]⟩, .int .i64 0, .int .i64 0, .slice none 0 0]) (by simp [results, Tryz.results143, go_sem, *]) rfl ?_
  exact ⟨rfl, by exact belC (Below.refl _ _)⟩
set_option maxRecDepth 100000 in
set_option maxHeartbeats 4000000 in
theorem only2_any (w : World) (x : OpS) (hk : x.kind = 2) : Calls Tryz.prog 143 #[.agg x.cells.toArray] w fun e w' => e = .returned (.agg x.kept.cells.toArray) ∧ Below w.heap.size w w' := by
  have hkp : x.kept.cells.toArray = #[.int .i64 x.client, .int .i64 x.seq, .int .i64 2, .string (bs x.path), .string ⟨#[]⟩, .int .i64 0, .int .i64 0, .int .i64 0, .string ⟨#[]⟩, .int .i64 0, .int .i64 0, .slice none 0 0] := by
    obtain ⟨xc, xs, xk, p, q, xz, xh, xo, xt, xi, xn, mp, ml, mc⟩ := x
    simp only at hk
    subst hk
    rfl
  rw [hkp]
  clear hkp
  obtain ⟨xc, xs, xk, p, q, xz, xh, xo, xt, xi, xn, mp, ml, mc⟩ := x
  simp only at hk
  subst hk
  simp only [OpS.cells]
  go_enter Tryz.func143, Tryz.ntmps143
  go_wp2_with fail
  refine bodyPost_ret (v := .agg #[.int .i64 xc, .int .i64 xs, .int .i64 2, .string (bs p), .string ⟨#[]⟩, .int .i64 0, .int .i64 0, .int .i64 0, .string ⟨#[]⟩, .int .i64 0, .int .i64 0, .slice none 0 0]) (by simp [results, Tryz.results143, go_sem, *]) rfl ?_
  exact ⟨rfl, by exact belC (Below.refl _ _)⟩
set_option maxRecDepth 100000 in
set_option maxHeartbeats 4000000 in
theorem only3_any (w : World) (x : OpS) (hk : x.kind = 3) : Calls Tryz.prog 143 #[.agg x.cells.toArray] w fun e w' => e = .returned (.agg x.kept.cells.toArray) ∧ Below w.heap.size w w' := by
  have hkp : x.kept.cells.toArray = #[.int .i64 x.client, .int .i64 x.seq, .int .i64 3, .string (bs x.path), .string ⟨#[]⟩, .int .i64 0, .int .i64 0, .int .i64 0, .string ⟨#[]⟩, .int .i64 0, .int .i64 0, .slice none 0 0] := by
    obtain ⟨xc, xs, xk, p, q, xz, xh, xo, xt, xi, xn, mp, ml, mc⟩ := x
    simp only at hk
    subst hk
    rfl
  rw [hkp]
  clear hkp
  obtain ⟨xc, xs, xk, p, q, xz, xh, xo, xt, xi, xn, mp, ml, mc⟩ := x
  simp only at hk
  subst hk
  simp only [OpS.cells]
  go_enter Tryz.func143, Tryz.ntmps143
  go_wp2_with fail
  refine bodyPost_ret (v := .agg #[.int .i64 xc, .int .i64 xs, .int .i64 3, .string (bs p), .string ⟨#[]⟩, .int .i64 0, .int .i64 0, .int .i64 0, .string ⟨#[]⟩, .int .i64 0, .int .i64 0, .slice none 0 0]) (by simp [results, Tryz.results143, go_sem, *]) rfl ?_
  exact ⟨rfl, by exact belC (Below.refl _ _)⟩
set_option maxRecDepth 100000 in
set_option maxHeartbeats 4000000 in
theorem only4_any (w : World) (x : OpS) (hk : x.kind = 4) : Calls Tryz.prog 143 #[.agg x.cells.toArray] w fun e w' => e = .returned (.agg x.kept.cells.toArray) ∧ Below w.heap.size w w' := by
  have hkp : x.kept.cells.toArray = #[.int .i64 x.client, .int .i64 x.seq, .int .i64 4, .string (bs x.path), .string (bs x.dest), .int .i64 0, .int .i64 0, .int .i64 0, .string ⟨#[]⟩, .int .i64 0, .int .i64 0, .slice none 0 0] := by
    obtain ⟨xc, xs, xk, p, q, xz, xh, xo, xt, xi, xn, mp, ml, mc⟩ := x
    simp only at hk
    subst hk
    rfl
  rw [hkp]
  clear hkp
  obtain ⟨xc, xs, xk, p, q, xz, xh, xo, xt, xi, xn, mp, ml, mc⟩ := x
  simp only at hk
  subst hk
  simp only [OpS.cells]
  go_enter Tryz.func143, Tryz.ntmps143
  go_wp2_with fail
  go_region
  all_goals
    go_wp2_with fail
    refine bodyPost_ret (v := .agg #[.int .i64 xc, .int .i64 xs, .int .i64 4, .string (bs p), .string (bs q), .int .i64 0, .int .i64 0, .int .i64 0, .string ⟨#[]⟩, .int .i64 0, .int .i64 0, .slice none 0 0]) (by simp [results, Tryz.results143, go_sem, *]) rfl ?_
    exact ⟨rfl, by exact belC (Below.refl _ _)⟩
set_option maxRecDepth 100000 in
set_option maxHeartbeats 4000000 in
theorem only5_any (w : World) (x : OpS) (hk : x.kind = 5) : Calls Tryz.prog 143 #[.agg x.cells.toArray] w fun e w' => e = .returned (.agg x.kept.cells.toArray) ∧ Below w.heap.size w w' := by
  have hkp : x.kept.cells.toArray = #[.int .i64 x.client, .int .i64 x.seq, .int .i64 5, .string (bs x.path), .string ⟨#[]⟩, .int .i64 0, .int .i64 0, .int .i64 0, .string ⟨#[]⟩, .int .i64 0, .int .i64 0, .slice none 0 0] := by
    obtain ⟨xc, xs, xk, p, q, xz, xh, xo, xt, xi, xn, mp, ml, mc⟩ := x
    simp only at hk
    subst hk
    rfl
  rw [hkp]
  clear hkp
  obtain ⟨xc, xs, xk, p, q, xz, xh, xo, xt, xi, xn, mp, ml, mc⟩ := x
  simp only at hk
  subst hk
  simp only [OpS.cells]
  go_enter Tryz.func143, Tryz.ntmps143
  go_wp2_with fail
  refine bodyPost_ret (v := .agg #[.int .i64 xc, .int .i64 xs, .int .i64 5, .string (bs p), .string ⟨#[]⟩, .int .i64 0, .int .i64 0, .int .i64 0, .string ⟨#[]⟩, .int .i64 0, .int .i64 0, .slice none 0 0]) (by simp [results, Tryz.results143, go_sem, *]) rfl ?_
  exact ⟨rfl, by exact belC (Below.refl _ _)⟩
set_option maxRecDepth 100000 in
set_option maxHeartbeats 4000000 in
theorem only6_any (w : World) (x : OpS) (hk : x.kind = 6) : Calls Tryz.prog 143 #[.agg x.cells.toArray] w fun e w' => e = .returned (.agg x.kept.cells.toArray) ∧ Below w.heap.size w w' := by
  have hkp : x.kept.cells.toArray = #[.int .i64 x.client, .int .i64 x.seq, .int .i64 6, .string (bs x.path), .string (bs x.dest), .int .i64 0, .int .i64 0, .int .i64 0, .string ⟨#[]⟩, .int .i64 0, .int .i64 0, .slice none 0 0] := by
    obtain ⟨xc, xs, xk, p, q, xz, xh, xo, xt, xi, xn, mp, ml, mc⟩ := x
    simp only at hk
    subst hk
    rfl
  rw [hkp]
  clear hkp
  obtain ⟨xc, xs, xk, p, q, xz, xh, xo, xt, xi, xn, mp, ml, mc⟩ := x
  simp only at hk
  subst hk
  simp only [OpS.cells]
  go_enter Tryz.func143, Tryz.ntmps143
  go_wp2_with fail
  go_region
  all_goals
    go_wp2_with fail
    refine bodyPost_ret (v := .agg #[.int .i64 xc, .int .i64 xs, .int .i64 6, .string (bs p), .string (bs q), .int .i64 0, .int .i64 0, .int .i64 0, .string ⟨#[]⟩, .int .i64 0, .int .i64 0, .slice none 0 0]) (by simp [results, Tryz.results143, go_sem, *]) rfl ?_
    exact ⟨rfl, by exact belC (Below.refl _ _)⟩
set_option maxRecDepth 100000 in
set_option maxHeartbeats 4000000 in
theorem only7_any (w : World) (x : OpS) (hk : x.kind = 7) : Calls Tryz.prog 143 #[.agg x.cells.toArray] w fun e w' => e = .returned (.agg x.kept.cells.toArray) ∧ Below w.heap.size w w' := by
  have hkp : x.kept.cells.toArray = #[.int .i64 x.client, .int .i64 x.seq, .int .i64 7, .string (bs x.path), .string ⟨#[]⟩, .int .i64 x.size, .int .i64 0, .int .i64 0, .string ⟨#[]⟩, .int .i64 0, .int .i64 0, .slice none 0 0] := by
    obtain ⟨xc, xs, xk, p, q, xz, xh, xo, xt, xi, xn, mp, ml, mc⟩ := x
    simp only at hk
    subst hk
    rfl
  rw [hkp]
  clear hkp
  obtain ⟨xc, xs, xk, p, q, xz, xh, xo, xt, xi, xn, mp, ml, mc⟩ := x
  simp only at hk
  subst hk
  simp only [OpS.cells]
  go_enter Tryz.func143, Tryz.ntmps143
  go_wp2_with fail
  go_region
  all_goals
    go_wp2_with fail
    refine bodyPost_ret (v := .agg #[.int .i64 xc, .int .i64 xs, .int .i64 7, .string (bs p), .string ⟨#[]⟩, .int .i64 xz, .int .i64 0, .int .i64 0, .string ⟨#[]⟩, .int .i64 0, .int .i64 0, .slice none 0 0]) (by simp [results, Tryz.results143, go_sem, *]) rfl ?_
    exact ⟨rfl, by exact belC (Below.refl _ _)⟩
set_option maxRecDepth 100000 in
set_option maxHeartbeats 4000000 in
theorem only8_any (w : World) (x : OpS) (hk : x.kind = 8) : Calls Tryz.prog 143 #[.agg x.cells.toArray] w fun e w' => e = .returned (.agg x.kept.cells.toArray) ∧ Below w.heap.size w w' := by
  have hkp : x.kept.cells.toArray = #[.int .i64 x.client, .int .i64 x.seq, .int .i64 8, .string (bs x.path), .string ⟨#[]⟩, .int .i64 0, .int .i64 0, .int .i64 0, .string ⟨#[]⟩, .int .i64 0, .int .i64 0, .slice none 0 0] := by
    obtain ⟨xc, xs, xk, p, q, xz, xh, xo, xt, xi, xn, mp, ml, mc⟩ := x
    simp only at hk
    subst hk
    rfl
  rw [hkp]
  clear hkp
  obtain ⟨xc, xs, xk, p, q, xz, xh, xo, xt, xi, xn, mp, ml, mc⟩ := x
  simp only at hk
  subst hk
  simp only [OpS.cells]
  go_enter Tryz.func143, Tryz.ntmps143
  go_wp2_with fail
  refine bodyPost_ret (v := .agg #[.int .i64 xc, .int .i64 xs, .int .i64 8, .string (bs p), .string ⟨#[]⟩, .int .i64 0, .int .i64 0, .int .i64 0, .string ⟨#[]⟩, .int .i64 0, .int .i64 0, .slice none 0 0]) (by simp [results, Tryz.results143, go_sem, *]) rfl ?_
  exact ⟨rfl, by exact belC (Below.refl _ _)⟩
set_option maxRecDepth 100000 in
set_option maxHeartbeats 4000000 in
theorem only9_any (w : World) (x : OpS) (hk : x.kind = 9) : Calls Tryz.prog 143 #[.agg x.cells.toArray] w fun e w' => e = .returned (.agg x.kept.cells.toArray) ∧ Below w.heap.size w w' := by
  have hkp : x.kept.cells.toArray = #[.int .i64 x.client, .int .i64 x.seq, .int .i64 9, .string ⟨#[]⟩, .string ⟨#[]⟩, .int .i64 0, .int .i64 x.hd, .int .i64 0, .string ⟨#[]⟩, .int .i64 0, .int .i64 0, .slice none 0 0] := by
    obtain ⟨xc, xs, xk, p, q, xz, xh, xo, xt, xi, xn, mp, ml, mc⟩ := x
    simp only at hk
    subst hk
    rfl
  rw [hkp]
  clear hkp
  obtain ⟨xc, xs, xk, p, q, xz, xh, xo, xt, xi, xn, mp, ml, mc⟩ := x
  simp only at hk
  subst hk
  simp only [OpS.cells]
  go_enter Tryz.func143, Tryz.ntmps143
  go_wp2_with fail
  refine bodyPost_ret (v := .agg #[.int .i64 xc, .int .i64 xs, .int .i64 9, .string ⟨#[]⟩, .string ⟨#[]⟩, .int .i64 0, .int .i64 xh, .int .i64 0, .string ⟨#[]⟩, .int .i64 0, .int .i64 0, .slice none 0 0]) (by simp [results, Tryz.results143, go_sem, *]) rfl ?_
  exact ⟨rfl, by exact belC (Below.refl _ _)⟩
set_option maxRecDepth 100000 in
set_option maxHeartbeats 4000000 in
theorem only10_any (w : World) (x : OpS) (hk : x.kind = 10) : Calls Tryz.prog 143 #[.agg x.cells.toArray] w fun e w' => e = .returned (.agg x.kept.cells.toArray) ∧ Below w.heap.size w w' := by
  have hkp : x.kept.cells.toArray = #[.int .i64 x.client, .int .i64 x.seq, .int .i64 10, .string ⟨#[]⟩, .string ⟨#[]⟩, .int .i64 0, .int .i64 x.hd, .int .i64 x.off, .string x.data, .int .i64 0, .int .i64 0, .slice none 0 0] := by
    obtain ⟨xc, xs, xk, p, q, xz, xh, xo, xt, xi, xn, mp, ml, mc⟩ := x
    simp only at hk
    subst hk
    rfl
  rw [hkp]
  clear hkp
  obtain ⟨xc, xs, xk, p, q, xz, xh, xo, xt, xi, xn, mp, ml, mc⟩ := x
  simp only at hk
  subst hk
  simp only [OpS.cells]
  go_enter Tryz.func143, Tryz.ntmps143
  go_wp2_with fail
  go_region
  all_goals
    go_wp2_with fail
    refine bodyPost_ret (v := .agg #[.int .i64 xc, .int .i64 xs, .int .i64 10, .string ⟨#[]⟩, .string ⟨#[]⟩, .int .i64 0, .int .i64 xh, .int .i64 xo, .string xt, .int .i64 0, .int .i64 0, .slice none 0 0]) (by simp [results, Tryz.results143, go_sem, *]) rfl ?_
    exact ⟨rfl, by exact belC (Below.refl _ _)⟩
set_option maxRecDepth 100000 in
set_option maxHeartbeats 4000000 in
theorem only11_any (w : World) (x : OpS) (hk : x.kind = 11) : Calls Tryz.prog 143 #[.agg x.cells.toArray] w fun e w' => e = .returned (.agg x.kept.cells.toArray) ∧ Below w.heap.size w w' := by
  have hkp : x.kept.cells.toArray = #[.int .i64 x.client, .int .i64 x.seq, .int .i64 11, .string ⟨#[]⟩, .string ⟨#[]⟩, .int .i64 0, .int .i64 0, .int .i64 0, .string ⟨#[]⟩, .int .i64 x.tick, .int .i64 0, .slice none 0 0] := by
    obtain ⟨xc, xs, xk, p, q, xz, xh, xo, xt, xi, xn, mp, ml, mc⟩ := x
    simp only at hk
    subst hk
    rfl
  rw [hkp]
  clear hkp
  obtain ⟨xc, xs, xk, p, q, xz, xh, xo, xt, xi, xn, mp, ml, mc⟩ := x
  simp only at hk
  subst hk
  simp only [OpS.cells]
  go_enter Tryz.func143, Tryz.ntmps143
  go_wp2_with fail
  refine bodyPost_ret (v := .agg #[.int .i64 xc, .int .i64 xs, .int .i64 11, .string ⟨#[]⟩, .string ⟨#[]⟩, .int .i64 0, .int .i64 0, .int .i64 0, .string ⟨#[]⟩, .int .i64 xi, .int .i64 0, .slice none 0 0]) (by simp [results, Tryz.results143, go_sem, *]) rfl ?_
  exact ⟨rfl, by exact belC (Below.refl _ _)⟩
set_option maxRecDepth 100000 in
set_option maxHeartbeats 4000000 in
theorem only12_any (w : World) (x : OpS) (hk : x.kind = 12) : Calls Tryz.prog 143 #[.agg x.cells.toArray] w fun e w' => e = .returned (.agg x.kept.cells.toArray) ∧ Below w.heap.size w w' := by
  have hkp : x.kept.cells.toArray = #[.int .i64 x.client, .int .i64 x.seq, .int .i64 12, .string ⟨#[]⟩, .string ⟨#[]⟩, .int .i64 0, .int .i64 0, .int .i64 0, .string ⟨#[]⟩, .int .i64 x.tick, .int .i64 0, .slice none 0 0] := by
    obtain ⟨xc, xs, xk, p, q, xz, xh, xo, xt, xi, xn, mp, ml, mc⟩ := x
    simp only at hk
    subst hk
    rfl
  rw [hkp]
  clear hkp
  obtain ⟨xc, xs, xk, p, q, xz, xh, xo, xt, xi, xn, mp, ml, mc⟩ := x
  simp only at hk
  subst hk
  simp only [OpS.cells]
  go_enter Tryz.func143, Tryz.ntmps143
  go_wp2_with fail
  refine bodyPost_ret (v := .agg #[.int .i64 xc, .int .i64 xs, .int .i64 12, .string ⟨#[]⟩, .string ⟨#[]⟩, .int .i64 0, .int .i64 0, .int .i64 0, .string ⟨#[]⟩, .int .i64 xi, .int .i64 0, .slice none 0 0]) (by simp [results, Tryz.results143, go_sem, *]) rfl ?_
  exact ⟨rfl, by exact belC (Below.refl _ _)⟩
set_option maxRecDepth 100000 in
set_option maxHeartbeats 4000000 in
theorem only13_any (w : World) (x : OpS) (hk : x.kind = 13) : Calls Tryz.prog 143 #[.agg x.cells.toArray] w fun e w' => e = .returned (.agg x.kept.cells.toArray) ∧ Below w.heap.size w w' := by
  have hkp : x.kept.cells.toArray = #[.int .i64 x.client, .int .i64 x.seq, .int .i64 13, .string ⟨#[]⟩, .string ⟨#[]⟩, .int .i64 0, .int .i64 0, .int .i64 0, .string x.data, .int .i64 0, .int .i64 x.ino, .slice x.mp x.ml x.mc] := by
    obtain ⟨xc, xs, xk, p, q, xz, xh, xo, xt, xi, xn, mp, ml, mc⟩ := x
    simp only at hk
    subst hk
    rfl
  rw [hkp]
  clear hkp
  obtain ⟨xc, xs, xk, p, q, xz, xh, xo, xt, xi, xn, mp, ml, mc⟩ := x
  simp only at hk
  subst hk
  simp only [OpS.cells]
  go_enter Tryz.func143, Tryz.ntmps143
  go_wp2_with fail
  go_region
  all_goals
    go_wp2_with fail
    refine bodyPost_ret (v := .agg #[.int .i64 xc, .int .i64 xs, .int .i64 13, .string ⟨#[]⟩, .string ⟨#[]⟩, .int .i64 0, .int .i64 0, .int .i64 0, .string xt, .int .i64 0, .int .i64 xn, .slice mp ml mc]) (by simp [results, Tryz.results143, go_sem, *]) rfl ?_
    exact ⟨rfl, by exact belC (Below.refl _ _)⟩
set_option maxRecDepth 100000 in
set_option maxHeartbeats 4000000 in
theorem only14_any (w : World) (x : OpS) (hk : x.kind = 14) : Calls Tryz.prog 143 #[.agg x.cells.toArray] w fun e w' => e = .returned (.agg x.kept.cells.toArray) ∧ Below w.heap.size w w' := by
  have hkp : x.kept.cells.toArray = #[.int .i64 x.client, .int .i64 x.seq, .int .i64 14, .string ⟨#[]⟩, .string ⟨#[]⟩, .int .i64 x.size, .int .i64 0, .int .i64 x.off, .string x.data, .int .i64 0, .int .i64 0, .slice none 0 0] := by
    obtain ⟨xc, xs, xk, p, q, xz, xh, xo, xt, xi, xn, mp, ml, mc⟩ := x
    simp only at hk
    subst hk
    rfl
  rw [hkp]
  clear hkp
  obtain ⟨xc, xs, xk, p, q, xz, xh, xo, xt, xi, xn, mp, ml, mc⟩ := x
  simp only at hk
  subst hk
  simp only [OpS.cells]
  go_enter Tryz.func143, Tryz.ntmps143
  go_wp2_with fail
  go_region
  all_goals
    go_wp2_with fail
    refine bodyPost_ret (v := .agg #[.int .i64 xc, .int .i64 xs, .int .i64 14, .string ⟨#[]⟩, .string ⟨#[]⟩, .int .i64 xz, .int .i64 0, .int .i64 xo, .string xt, .int .i64 0, .int .i64 0, .slice none 0 0]) (by simp [results, Tryz.results143, go_sem, *]) rfl ?_
    exact ⟨rfl, by exact belC (Below.refl _ _)⟩
theorem kept_no (x : OpS) (hk : x.kind < 1 ∨ 14 < x.kind) : x.kept = opN x.client x.seq x.kind := by
  unfold OpS.kept
  have : fldL x.kind.toNat = [] := by
    by_cases h : x.kind < 1
    · rw [show x.kind.toNat = 0 by omega]; rfl
    · unfold fldL
      rw [List.getD_eq_getElem?_getD, List.getElem?_eq_none (by simp; omega)]
      rfl
  rw [this]
  rfl
set_option maxRecDepth 100000 in
set_option maxHeartbeats 4000000 in
theorem only0_any (w : World) (x : OpS) (hk : x.kind < 1 ∨ 14 < x.kind) : Calls Tryz.prog 143 #[.agg x.cells.toArray] w fun e w' => e = .returned (.agg x.kept.cells.toArray) ∧ Below w.heap.size w w' := by
  rw [kept_no x hk]
  obtain ⟨xc, xs, xk, p, q, xz, xh, xo, xt, xi, xn, mp, ml, mc⟩ := x
  simp only at hk ⊢
  have n1 : (xk == 1) = false := by simp; omega
  have n2 : (xk == 2) = false := by simp; omega
  have n3 : (xk == 3) = false := by simp; omega
  have n4 : (xk == 4) = false := by simp; omega
  have n5 : (xk == 5) = false := by simp; omega
  have n6 : (xk == 6) = false := by simp; omega
  have n7 : (xk == 7) = false := by simp; omega
  have n8 : (xk == 8) = false := by simp; omega
  have n9 : (xk == 9) = false := by simp; omega
  have n10 : (xk == 10) = false := by simp; omega
  have n11 : (xk == 11) = false := by simp; omega
  have n12 : (xk == 12) = false := by simp; omega
  have n13 : (xk == 13) = false := by simp; omega
  have n14 : (xk == 14) = false := by simp; omega
  clear hk
  simp only [OpS.cells, opN]
  go_enter Tryz.func143, Tryz.ntmps143
  go_wp2_with fail
  refine bodyPost_ret (v := .agg #[.int .i64 xc, .int .i64 xs, .int .i64 xk, .string ⟨#[]⟩, .string ⟨#[]⟩, .int .i64 0, .int .i64 0, .int .i64 0, .string ⟨#[]⟩, .int .i64 0, .int .i64 0, .slice none 0 0]) (by simp [results, Tryz.results143, go_sem, *]) rfl ?_
  exact ⟨rfl, by exact belC (Below.refl _ _)⟩
theorem only_any (w : World) (x : OpS) : Calls Tryz.prog 143 #[.agg x.cells.toArray] w fun e w' => e = .returned (.agg x.kept.cells.toArray) ∧ Below w.heap.size w w' := by
  by_cases h : x.kind < 1 ∨ 14 < x.kind
  · exact only0_any w x h
  have h14 : x.kind = 1 ∨ x.kind = 2 ∨ x.kind = 3 ∨ x.kind = 4 ∨ x.kind = 5 ∨ x.kind = 6 ∨ x.kind = 7 ∨ x.kind = 8 ∨ x.kind = 9 ∨ x.kind = 10 ∨ x.kind = 11 ∨ x.kind = 12 ∨ x.kind = 13 ∨ x.kind = 14 := by omega
  rcases h14 with h | h | h | h | h | h | h | h | h | h | h | h | h | h
  · exact only1_any w x h
  · exact only2_any w x h
  · exact only3_any w x h
  · exact only4_any w x h
  · exact only5_any w x h
  · exact only6_any w x h
  · exact only7_any w x h
  · exact only8_any w x h
  · exact only9_any w x h
  · exact only10_any w x h
  · exact only11_any w x h
  · exact only12_any w x h
  · exact only13_any w x h
  · exact only14_any w x h
end Go.Proofs.YtpiogibkleaaaaaGreatDoor
/- keep.Op: are two records alike? -/
namespace Go.Proofs.YtpiogibkleaaaaaGreatDoor
open Go.RowKit Esch

set_option linter.unusedSimpArgs false
def KOpRel (w : World) (B : Nat) (l : List Mv) (g : Nat) (v : Value) (wr : World) : Prop := ∃ i : Nat, g = l.length - i ∧ i ≤ l.length ∧ v = .int .i64 i ∧ Below B w wr
set_option maxRecDepth 100000 in
set_option maxHeartbeats 8000000 in
theorem kOp_any (w : World) (x y : OpS) (mv nv : List Mv) (hx : OpIn w x mv) (hy : RwAt w (fun _ => True) 4 y.ml y.mp (nv.flatMap mvC)) (hyl : y.ml = nv.length) (h16 : mv.length ≤ 100000) (hq : x.ml = y.ml → mv = nv) :
    Calls Tryz.prog 142 #[.agg x.cells.toArray, .agg y.cells.toArray] w (BoolB w (x.alike y)) := by
  obtain ⟨xc, xs, xk, p, q, xz, xh, xo, xt, xi, xn, mp, ml, mc⟩ := x
  obtain ⟨yc, ys, yk, p2, q2, yz, yh, yo, yt, yi, yn, np, nl, nc⟩ := y
  obtain ⟨hlen, hrow, -, -⟩ := hx
  simp only at hlen hrow hy hyl hq
  subst hlen
  subst hyl
  unfold OpS.alike
  simp only [OpS.cells]
  by_cases h0 : xc = yc
  rotate_left 1
  · have e0 : (xc != yc) = true := by simpa using h0
    rw [decide_eq_false h0]
    simp only [Bool.false_and, Bool.and_false, decide_true, Bool.true_and]
    clear h0 hrow hy hq
    go_enter Tryz.func142, Tryz.ntmps142
    go_wp2_with fail
    go_ret
    exact ⟨rfl, by exact belC (Below.refl _ _)⟩
  subst h0
  by_cases h1 : xs = ys
  rotate_left 1
  · have e1 : (xs != ys) = true := by simpa using h1
    rw [decide_eq_false h1]
    simp only [Bool.false_and, Bool.and_false, decide_true, Bool.true_and]
    clear h1 hrow hy hq
    go_enter Tryz.func142, Tryz.ntmps142
    go_wp2_with fail
    go_ret
    exact ⟨rfl, by exact belC (Below.refl _ _)⟩
  subst h1
  by_cases h2 : xk = yk
  rotate_left 1
  · have e2 : (xk != yk) = true := by simpa using h2
    rw [decide_eq_false h2]
    simp only [Bool.false_and, Bool.and_false, decide_true, Bool.true_and]
    clear h2 hrow hy hq
    go_enter Tryz.func142, Tryz.ntmps142
    go_wp2_with fail
    go_ret
    exact ⟨rfl, by exact belC (Below.refl _ _)⟩
  subst h2
  by_cases h3 : p = p2
  rotate_left 1
  · have e3 : ((bs p).toList == (bs p2).toList) = false := by rw [bs_eq_iff, decide_eq_false h3]
    rw [decide_eq_false h3]
    simp only [Bool.false_and, Bool.and_false, decide_true, Bool.true_and]
    clear h3 hrow hy hq
    go_enter Tryz.func142, Tryz.ntmps142
    go_wp2_with fail
    go_ret
    exact ⟨rfl, by exact belC (Below.refl _ _)⟩
  subst h3
  by_cases h4 : q = q2
  rotate_left 1
  · have e4 : ((bs q).toList == (bs q2).toList) = false := by rw [bs_eq_iff, decide_eq_false h4]
    rw [decide_eq_false h4]
    simp only [Bool.false_and, Bool.and_false, decide_true, Bool.true_and]
    clear h4 hrow hy hq
    go_enter Tryz.func142, Tryz.ntmps142
    go_wp2_with fail
    go_ret
    exact ⟨rfl, by exact belC (Below.refl _ _)⟩
  subst h4
  by_cases h5 : xz = yz
  rotate_left 1
  · have e5 : (xz != yz) = true := by simpa using h5
    rw [decide_eq_false h5]
    simp only [Bool.false_and, Bool.and_false, decide_true, Bool.true_and]
    clear h5 hrow hy hq
    go_enter Tryz.func142, Tryz.ntmps142
    go_wp2_with fail
    go_ret
    exact ⟨rfl, by exact belC (Below.refl _ _)⟩
  subst h5
  by_cases h6 : xh = yh
  rotate_left 1
  · have e6 : (xh != yh) = true := by simpa using h6
    rw [decide_eq_false h6]
    simp only [Bool.false_and, Bool.and_false, decide_true, Bool.true_and]
    clear h6 hrow hy hq
    go_enter Tryz.func142, Tryz.ntmps142
    go_wp2_with fail
    go_ret
    exact ⟨rfl, by exact belC (Below.refl _ _)⟩
  subst h6
  by_cases h7 : xo = yo
  rotate_left 1
  · have e7 : (xo != yo) = true := by simpa using h7
    rw [decide_eq_false h7]
    simp only [Bool.false_and, Bool.and_false, decide_true, Bool.true_and]
    clear h7 hrow hy hq
    go_enter Tryz.func142, Tryz.ntmps142
    go_wp2_with fail
    go_ret
    exact ⟨rfl, by exact belC (Below.refl _ _)⟩
  subst h7
  by_cases h8 : xt = yt
  rotate_left 1
  · have e8 : (xt.toList == yt.toList) = false := by rw [bytes_beq, decide_eq_false h8]
    rw [decide_eq_false h8]
    simp only [Bool.false_and, Bool.and_false, decide_true, Bool.true_and]
    clear h8 hrow hy hq
    go_enter Tryz.func142, Tryz.ntmps142
    go_wp2_with fail
    go_ret
    exact ⟨rfl, by exact belC (Below.refl _ _)⟩
  subst h8
  by_cases h9 : xi = yi
  rotate_left 1
  · have e9 : (xi != yi) = true := by simpa using h9
    rw [decide_eq_false h9]
    simp only [Bool.false_and, Bool.and_false, decide_true, Bool.true_and]
    clear h9 hrow hy hq
    go_enter Tryz.func142, Tryz.ntmps142
    go_wp2_with fail
    go_ret
    exact ⟨rfl, by exact belC (Below.refl _ _)⟩
  subst h9
  by_cases h10 : xn = yn
  rotate_left 1
  · have e10 : (xn != yn) = true := by simpa using h10
    rw [decide_eq_false h10]
    simp only [Bool.false_and, Bool.and_false, decide_true, Bool.true_and]
    clear h10 hrow hy hq
    go_enter Tryz.func142, Tryz.ntmps142
    go_wp2_with fail
    go_ret
    exact ⟨rfl, by exact belC (Below.refl _ _)⟩
  subst h10
  simp only [decide_true, Bool.true_and]
  by_cases hl : mv.length = nv.length
  rotate_left 1
  · have el : ((mv.length : Int) != nv.length) = true := by simp only [bne_iff_ne, ne_eq]; omega
    rw [decide_eq_false hl]
    clear hl hrow hy hq
    go_enter Tryz.func142, Tryz.ntmps142
    go_wp2_with fail
    go_ret
    exact ⟨rfl, by exact belC (Below.refl _ _)⟩
  obtain rfl := hq hl
  rw [decide_eq_true hl]
  have HX := Lib.hid hrow
  have HY := Lib.hid hy
  obtain ⟨n, hn⟩ : ∃ n, n = mv.length := ⟨_, rfl⟩
  rw [← hn] at h16 ⊢
  have HN := Lib.hid hn
  obtain ⟨W1, hW1⟩ : ∃ W1, W1 = (w.alloc (.cells #[.int .i64 xc, .int .i64 xs, .int .i64 xk, .string (bs p), .string (bs q), .int .i64 xz, .int .i64 xh, .int .i64 xo, .string xt, .int .i64 xi, .int .i64 xn, .slice mp n mc] 41)).alloc (.cells #[.int .i64 xc, .int .i64 xs, .int .i64 xk, .string (bs p), .string (bs q), .int .i64 xz, .int .i64 xh, .int .i64 xo, .string xt, .int .i64 xi, .int .i64 xn, .slice np n nc] 41) := ⟨_, rfl⟩
  have hB1 : Below w.heap.size w W1 := by rw [hW1]; exact belC (Below.refl _ _)
  have a11 : W1.cell? ⟨w.heap.size, 11, none⟩ = some (.slice mp n mc) := by rw [hW1]; go_simp
  have b11 : W1.cell? ⟨w.heap.size + 1, 11, none⟩ = some (.slice np n nc) := by rw [hW1]; go_simp
  have hz1 : W1.heap.size = w.heap.size + 2 := by rw [hW1]; simp
  have HW1 := Lib.hid hW1
  have HB1 := Lib.hid hB1
  have HA := Lib.hid a11
  have HBb := Lib.hid b11
  have HZ1 := Lib.hid hz1
  clear hW1 hB1 hq hl hrow hy hn a11 b11 hz1
  go_enter Tryz.func142, Tryz.ntmps142
  go_wp2_with fail
  rw [← HW1.out]
  go_loopg [5] n (fun g s5 wr => KOpRel W1 W1.heap.size mv g s5 wr)
  case atStart => exact ⟨0, by rw [← HN.out]; rfl, Nat.zero_le _, rfl, Below.refl _ _⟩
  case round =>
    obtain ⟨i, hg, hi, rfl, hB⟩ := hrel
    rw [← HN.out] at hg hi
    subst hg
    have HB := Lib.hid hB
    have a11 := below_at hB HA.out (cell_lt HA.out)
    have b11 := below_at hB HBb.out (cell_lt HBb.out)
    clear hB
    by_cases hlt : i < n
    · have hix : i < mv.length := by have := HN.out; omega
      obtain ⟨xb, xo', rfl, -, hxl, hxc⟩ := HX.out.elem mvC_len default hix
      obtain ⟨yb, yo', rfl, -, hyl, hyc⟩ := HY.out.elem mvC_len default hix
      generalize mv.getD i default = u at *
      obtain ⟨u0, u1, u2, u3⟩ := u
      have f0 : wr.cell? ⟨xb, xo' + i * 4, none⟩ = some (.int .i64 u0) := below_at HB.out (below_at HB1.out (hxc 0 (by decide)) hxl) (Nat.lt_of_lt_of_le hxl HB1.out.size)
      have f1 : wr.cell? ⟨xb, xo' + i * 4 + 1, none⟩ = some (.int .i64 u1) := below_at HB.out (below_at HB1.out (hxc 1 (by decide)) hxl) (Nat.lt_of_lt_of_le hxl HB1.out.size)
      have f2 : wr.cell? ⟨xb, xo' + i * 4 + 2, none⟩ = some (.int .i64 u2) := below_at HB.out (below_at HB1.out (hxc 2 (by decide)) hxl) (Nat.lt_of_lt_of_le hxl HB1.out.size)
      have f3 : wr.cell? ⟨xb, xo' + i * 4 + 3, none⟩ = some (.int .i64 u3) := below_at HB.out (below_at HB1.out (hxc 3 (by decide)) hxl) (Nat.lt_of_lt_of_le hxl HB1.out.size)
      have g0 : wr.cell? ⟨yb, yo' + i * 4, none⟩ = some (.int .i64 u0) := below_at HB.out (below_at HB1.out (hyc 0 (by decide)) hyl) (Nat.lt_of_lt_of_le hyl HB1.out.size)
      have g1 : wr.cell? ⟨yb, yo' + i * 4 + 1, none⟩ = some (.int .i64 u1) := below_at HB.out (below_at HB1.out (hyc 1 (by decide)) hyl) (Nat.lt_of_lt_of_le hyl HB1.out.size)
      have g2 : wr.cell? ⟨yb, yo' + i * 4 + 2, none⟩ = some (.int .i64 u2) := below_at HB.out (below_at HB1.out (hyc 2 (by decide)) hyl) (Nat.lt_of_lt_of_le hyl HB1.out.size)
      have g3 : wr.cell? ⟨yb, yo' + i * 4 + 3, none⟩ = some (.int .i64 u3) := below_at HB.out (below_at HB1.out (hyc 3 (by decide)) hyl) (Nat.lt_of_lt_of_le hyl HB1.out.size)
      have hxl' := cell_lt f0
      have hyl' := cell_lt g0
      have hal' := cell_lt a11
      have hbl' := cell_lt b11
      have hil2 : (0 : Int) ≤ i ∧ (i : Int) < n := by omega
      have hi1 : i + 1 ≤ n := hlt
      have hms : n - (i + 1) < n - i := by omega
      have hwr1 := Lib.hid (show wrap64 ((i : Int) + 1) = ((i + 1 : Nat) : Int) by unfold wrap64; omega)
      have hzB := HB.out.size
      clear hxc hyc
      go_wp2_with fail
      refine wp_region_held_drew (S := fun W' => W'.cell? ⟨w.heap.size, 11, none⟩ = some (.slice (some ⟨xb, xo', none⟩) n mc) ∧ W'.cell? ⟨w.heap.size + 1, 11, none⟩ = some (.slice (some ⟨yb, yo', none⟩) n nc) ∧ W'.cell? ⟨xb, xo' + i * 4, none⟩ = some (.int .i64 u0) ∧ W'.cell? ⟨xb, xo' + i * 4 + 1, none⟩ = some (.int .i64 u1) ∧ W'.cell? ⟨xb, xo' + i * 4 + 2, none⟩ = some (.int .i64 u2) ∧ W'.cell? ⟨xb, xo' + i * 4 + 3, none⟩ = some (.int .i64 u3) ∧ W'.cell? ⟨yb, yo' + i * 4, none⟩ = some (.int .i64 u0) ∧ W'.cell? ⟨yb, yo' + i * 4 + 1, none⟩ = some (.int .i64 u1) ∧ W'.cell? ⟨yb, yo' + i * 4 + 2, none⟩ = some (.int .i64 u2) ∧ W'.cell? ⟨yb, yo' + i * 4 + 3, none⟩ = some (.int .i64 u3)) (by kernel_rfl) ⟨a11, b11, f0, f1, f2, f3, g0, g1, g2, g3⟩ (fun hHeld => ?_)
      refine takeL 0 ?_
      refine takeL 1 ?_
      refine takeL 2 ?_
      refine takeL 3 ?_
      refine takeL 4 ?_
      refine takeL 5 ?_
      refine takeL 6 ?_
      refine takeL 7 ?_
      refine takeL 8 ?_
      refine takeL 9 ?_
      refine wpAnyH_ready (rs := [10, 11]) (by kernel_rfl) (by simp) ?_
      refine AllReadyH.cons (o := _) rfl (fun K hK => ?_) (AllReadyH.cons (o := _) rfl (fun K hK => ?_) AllReadyH.nil)
      · go_simp
        try go_wp2_with fail
        refine hK.out _ _ ⟨by go_simp, by go_simp, by go_simp, by go_simp, by go_simp, by go_simp, by go_simp, by go_simp, by go_simp, by go_simp⟩ (fun hHeld => ?_)
        clear hK K
        try simp only [Act.put, List.setIfInBounds_toArray, List.set_cons_zero, List.set_cons_succ]
        refine wpAnyH_ready (rs := [11]) (by kernel_rfl) (by simp) ?_
        refine AllReadyH.cons (o := _) rfl (fun K hK => ?_) AllReadyH.nil
        go_simp
        try go_wp2_with fail
        refine hK.out _ _ ⟨by go_simp, by go_simp, by go_simp, by go_simp, by go_simp, by go_simp, by go_simp, by go_simp, by go_simp, by go_simp⟩ (fun hHeld => ?_)
        clear hK K
        try simp only [Act.put, List.setIfInBounds_toArray, List.set_cons_zero, List.set_cons_succ]
        refine wpAnyH_ready (rs := [12]) (by kernel_rfl) (by simp) ?_
        refine AllReadyH.cons (o := _) rfl (fun K hK => ?_) AllReadyH.nil
        go_simp
        try go_wp2_with fail
        refine hK.out _ _ ⟨by go_simp, by go_simp, by go_simp, by go_simp, by go_simp, by go_simp, by go_simp, by go_simp, by go_simp, by go_simp⟩ (fun hHeld => ?_)
        clear hK K
        try simp only [Act.put, List.setIfInBounds_toArray, List.set_cons_zero, List.set_cons_succ]
        refine wpAnyH_ready (rs := [13]) (by kernel_rfl) (by simp) ?_
        refine AllReadyH.cons (o := _) rfl (fun K hK => ?_) AllReadyH.nil
        go_simp
        try go_wp2_with fail
        refine hK.out _ _ ⟨by go_simp, by go_simp, by go_simp, by go_simp, by go_simp, by go_simp, by go_simp, by go_simp, by go_simp, by go_simp⟩ (fun hHeld => ?_)
        clear hK K
        try simp only [Act.put, List.setIfInBounds_toArray, List.set_cons_zero, List.set_cons_succ]
        refine wpAnyH_done (by kernel_rfl) ?_ _
        clear hHeld
        go_wp2_with fail
        go_roundg (n - (i + 1))
        case measure => exact hms
        case rel => exact ⟨i + 1, by rw [← HN.out], by rw [← HN.out]; exact hi1, by first | rfl | rw [hwr1.out], by exact belC HB.out⟩
      · go_simp
        try go_wp2_with fail
        refine hK.out _ _ ⟨by go_simp, by go_simp, by go_simp, by go_simp, by go_simp, by go_simp, by go_simp, by go_simp, by go_simp, by go_simp⟩ (fun hHeld => ?_)
        clear hK K
        try simp only [Act.put, List.setIfInBounds_toArray, List.set_cons_zero, List.set_cons_succ]
        refine wpAnyH_ready (rs := [10]) (by kernel_rfl) (by simp) ?_
        refine AllReadyH.cons (o := _) rfl (fun K hK => ?_) AllReadyH.nil
        go_simp
        try go_wp2_with fail
        refine hK.out _ _ ⟨by go_simp, by go_simp, by go_simp, by go_simp, by go_simp, by go_simp, by go_simp, by go_simp, by go_simp, by go_simp⟩ (fun hHeld => ?_)
        clear hK K
        try simp only [Act.put, List.setIfInBounds_toArray, List.set_cons_zero, List.set_cons_succ]
        refine wpAnyH_ready (rs := [12]) (by kernel_rfl) (by simp) ?_
        refine AllReadyH.cons (o := _) rfl (fun K hK => ?_) AllReadyH.nil
        go_simp
        try go_wp2_with fail
        refine hK.out _ _ ⟨by go_simp, by go_simp, by go_simp, by go_simp, by go_simp, by go_simp, by go_simp, by go_simp, by go_simp, by go_simp⟩ (fun hHeld => ?_)
        clear hK K
        try simp only [Act.put, List.setIfInBounds_toArray, List.set_cons_zero, List.set_cons_succ]
        refine wpAnyH_ready (rs := [13]) (by kernel_rfl) (by simp) ?_
        refine AllReadyH.cons (o := _) rfl (fun K hK => ?_) AllReadyH.nil
        go_simp
        try go_wp2_with fail
        refine hK.out _ _ ⟨by go_simp, by go_simp, by go_simp, by go_simp, by go_simp, by go_simp, by go_simp, by go_simp, by go_simp, by go_simp⟩ (fun hHeld => ?_)
        clear hK K
        try simp only [Act.put, List.setIfInBounds_toArray, List.set_cons_zero, List.set_cons_succ]
        refine wpAnyH_done (by kernel_rfl) ?_ _
        clear hHeld
        go_wp2_with fail
        go_roundg (n - (i + 1))
        case measure => exact hms
        case rel => exact ⟨i + 1, by rw [← HN.out], by rw [← HN.out]; exact hi1, by first | rfl | rw [hwr1.out], by exact belC HB.out⟩
    · obtain rfl : i = n := by omega
      have hge : ¬ (i : Int) < i := by omega
      clear hlt
      go_wp2_with fail
      go_ret
      exact ⟨rfl, HB1.out.trans (HB.out.mono HB1.out.size)⟩
theorem kOp_kept (w : World) (x : OpS) (mv : List Mv) (hx : OpIn w x mv) (h16 : mv.length ≤ 100000) :
    Calls Tryz.prog 142 #[.agg x.cells.toArray, .agg x.kept.cells.toArray] w (BoolB w (x.alike x.kept)) := by
  rcases kept_moves x with ⟨h1, h2⟩ | ⟨h1, h2⟩
  · refine kOp_any w x x.kept mv [] hx (by rw [h1]; exact RwAt.nil _ _ _ _) h1 h16 (fun h => ?_)
    rw [h1, hx.len] at h
    exact List.length_eq_zero_iff.1 h
  · exact kOp_any w x x.kept mv mv hx (by rw [h1, h2, hx.len]; exact hx.row) (by rw [h1, hx.len]) h16 (fun _ => rfl)
end Go.Proofs.YtpiogibkleaaaaaGreatDoor
