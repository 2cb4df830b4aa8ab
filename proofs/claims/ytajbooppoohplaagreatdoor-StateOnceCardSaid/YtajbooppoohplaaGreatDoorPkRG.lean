import Derived.Test.YtajbooppoohplaaGreatDoorMac
import Derived.Test.YtajbooppoohplaaGreatDoorPkOpB
import Derived.Test.YtajbooppoohplaaGreatDoorPkOpA
import Derived.Test.YtajbooppoohplaaGreatDoorRKnown
import Derived.Test.YtajbooppoohplaaGreatDoorPkOpM
import Derived.Test.YtajbooppoohplaaGreatDoorPkRPa
/- the document's records: in, Only -/
set_option maxRecDepth 100000
set_option maxHeartbeats 8000000
namespace Go.Proofs.YtajbooppoohplaaGreatDoor
open Go.RowKit Esch

set_option linter.unusedSimpArgs false
theorem rIn_any (n a b : Int) (w : World) : Calls Tryz.prog 154 #[.int .i64 n, .int .i64 a, .int .i64 b] w fun e w' => e = .returned (.bool (winB n a b)) ∧ w' = w := by
 go_enter Tryz.func154, Tryz.ntmps154
 go_wp2
 all_goals
   go_ret
   refine ⟨?_, rfl⟩
   unfold winB
   first | (simp [*]; done) | (simp; omega)
theorem only1_any (w : World) (x : OpS) (hk : x.kind = 1) : Calls Tryz.prog 156 #[.agg x.cells.toArray] w fun e w' => e = .returned (.agg x.kept.cells.toArray) ∧ Below w.heap.size w w' := by
 have hkp : x.kept.cells.toArray = #[.int .i64 x.client, .int .i64 x.seq, .int .i64 1, .string (bs x.path), .string ⟨#[]⟩, .int .i64 0, .int .i64 0, .int .i64 0, .string ⟨#[]⟩, .int .i64 0, .int .i64 0, .slice none 0 0] := by
  exact mK62
 rw [hkp]
 clear hkp
 obtain ⟨xc, xs, xk, p, q, xz, xh, xo, xt, xi, xn, mp, ml, mc⟩ := x
 simp only at hk
 subst hk
 simp only [OpS.cells]
 go_enter Tryz.func156, Tryz.ntmps156
 go_wp2_with fail
 refine bodyPost_ret (v := .agg #[.int .i64 xc, .int .i64 xs, .int .i64 1, .string (bs p), .string ⟨#[]⟩, .int .i64 0, .int .i64 0, .int .i64 0, .string ⟨#[]⟩, .int .i64 0, .int .i64 0, .slice none 0 0]) (by simp [results, Tryz.results156, go_sem, *]) rfl ?_
 exact ⟨rfl, by exact belC (Below.refl _ _)⟩
theorem only2_any (w : World) (x : OpS) (hk : x.kind = 2) : Calls Tryz.prog 156 #[.agg x.cells.toArray] w fun e w' => e = .returned (.agg x.kept.cells.toArray) ∧ Below w.heap.size w w' := by
 have hkp : x.kept.cells.toArray = #[.int .i64 x.client, .int .i64 x.seq, .int .i64 2, .string (bs x.path), .string ⟨#[]⟩, .int .i64 0, .int .i64 0, .int .i64 0, .string ⟨#[]⟩, .int .i64 0, .int .i64 0, .slice none 0 0] := by
  exact mK62
 rw [hkp]
 clear hkp
 obtain ⟨xc, xs, xk, p, q, xz, xh, xo, xt, xi, xn, mp, ml, mc⟩ := x
 simp only at hk
 subst hk
 simp only [OpS.cells]
 go_enter Tryz.func156, Tryz.ntmps156
 go_wp2_with fail
 refine bodyPost_ret (v := .agg #[.int .i64 xc, .int .i64 xs, .int .i64 2, .string (bs p), .string ⟨#[]⟩, .int .i64 0, .int .i64 0, .int .i64 0, .string ⟨#[]⟩, .int .i64 0, .int .i64 0, .slice none 0 0]) (by simp [results, Tryz.results156, go_sem, *]) rfl ?_
 exact ⟨rfl, by exact belC (Below.refl _ _)⟩
theorem only3_any (w : World) (x : OpS) (hk : x.kind = 3) : Calls Tryz.prog 156 #[.agg x.cells.toArray] w fun e w' => e = .returned (.agg x.kept.cells.toArray) ∧ Below w.heap.size w w' := by
 have hkp : x.kept.cells.toArray = #[.int .i64 x.client, .int .i64 x.seq, .int .i64 3, .string (bs x.path), .string ⟨#[]⟩, .int .i64 0, .int .i64 0, .int .i64 0, .string ⟨#[]⟩, .int .i64 0, .int .i64 0, .slice none 0 0] := by
  exact mK62
 rw [hkp]
 clear hkp
 obtain ⟨xc, xs, xk, p, q, xz, xh, xo, xt, xi, xn, mp, ml, mc⟩ := x
 simp only at hk
 subst hk
 simp only [OpS.cells]
 go_enter Tryz.func156, Tryz.ntmps156
 go_wp2_with fail
 refine bodyPost_ret (v := .agg #[.int .i64 xc, .int .i64 xs, .int .i64 3, .string (bs p), .string ⟨#[]⟩, .int .i64 0, .int .i64 0, .int .i64 0, .string ⟨#[]⟩, .int .i64 0, .int .i64 0, .slice none 0 0]) (by simp [results, Tryz.results156, go_sem, *]) rfl ?_
 exact ⟨rfl, by exact belC (Below.refl _ _)⟩
theorem only4_any (w : World) (x : OpS) (hk : x.kind = 4) : Calls Tryz.prog 156 #[.agg x.cells.toArray] w fun e w' => e = .returned (.agg x.kept.cells.toArray) ∧ Below w.heap.size w w' := by
 have hkp : x.kept.cells.toArray = #[.int .i64 x.client, .int .i64 x.seq, .int .i64 4, .string (bs x.path), .string (bs x.dest), .int .i64 0, .int .i64 0, .int .i64 0, .string ⟨#[]⟩, .int .i64 0, .int .i64 0, .slice none 0 0] := by
  exact mK62
 rw [hkp]
 clear hkp
 obtain ⟨xc, xs, xk, p, q, xz, xh, xo, xt, xi, xn, mp, ml, mc⟩ := x
 simp only at hk
 subst hk
 simp only [OpS.cells]
 go_enter Tryz.func156, Tryz.ntmps156
 go_wp2_with fail
 go_region
 all_goals
   go_wp2_with fail
   refine bodyPost_ret (v := .agg #[.int .i64 xc, .int .i64 xs, .int .i64 4, .string (bs p), .string (bs q), .int .i64 0, .int .i64 0, .int .i64 0, .string ⟨#[]⟩, .int .i64 0, .int .i64 0, .slice none 0 0]) (by simp [results, Tryz.results156, go_sem, *]) rfl ?_
   exact ⟨rfl, by exact belC (Below.refl _ _)⟩
theorem only5_any (w : World) (x : OpS) (hk : x.kind = 5) : Calls Tryz.prog 156 #[.agg x.cells.toArray] w fun e w' => e = .returned (.agg x.kept.cells.toArray) ∧ Below w.heap.size w w' := by
 have hkp : x.kept.cells.toArray = #[.int .i64 x.client, .int .i64 x.seq, .int .i64 5, .string (bs x.path), .string ⟨#[]⟩, .int .i64 0, .int .i64 0, .int .i64 0, .string ⟨#[]⟩, .int .i64 0, .int .i64 0, .slice none 0 0] := by
  exact mK62
 rw [hkp]
 clear hkp
 obtain ⟨xc, xs, xk, p, q, xz, xh, xo, xt, xi, xn, mp, ml, mc⟩ := x
 simp only at hk
 subst hk
 simp only [OpS.cells]
 go_enter Tryz.func156, Tryz.ntmps156
 go_wp2_with fail
 refine bodyPost_ret (v := .agg #[.int .i64 xc, .int .i64 xs, .int .i64 5, .string (bs p), .string ⟨#[]⟩, .int .i64 0, .int .i64 0, .int .i64 0, .string ⟨#[]⟩, .int .i64 0, .int .i64 0, .slice none 0 0]) (by simp [results, Tryz.results156, go_sem, *]) rfl ?_
 exact ⟨rfl, by exact belC (Below.refl _ _)⟩
theorem only6_any (w : World) (x : OpS) (hk : x.kind = 6) : Calls Tryz.prog 156 #[.agg x.cells.toArray] w fun e w' => e = .returned (.agg x.kept.cells.toArray) ∧ Below w.heap.size w w' := by
 have hkp : x.kept.cells.toArray = #[.int .i64 x.client, .int .i64 x.seq, .int .i64 6, .string (bs x.path), .string (bs x.dest), .int .i64 0, .int .i64 0, .int .i64 0, .string ⟨#[]⟩, .int .i64 0, .int .i64 0, .slice none 0 0] := by
  exact mK62
 rw [hkp]
 clear hkp
 obtain ⟨xc, xs, xk, p, q, xz, xh, xo, xt, xi, xn, mp, ml, mc⟩ := x
 simp only at hk
 subst hk
 simp only [OpS.cells]
 go_enter Tryz.func156, Tryz.ntmps156
 go_wp2_with fail
 go_region
 all_goals
   go_wp2_with fail
   refine bodyPost_ret (v := .agg #[.int .i64 xc, .int .i64 xs, .int .i64 6, .string (bs p), .string (bs q), .int .i64 0, .int .i64 0, .int .i64 0, .string ⟨#[]⟩, .int .i64 0, .int .i64 0, .slice none 0 0]) (by simp [results, Tryz.results156, go_sem, *]) rfl ?_
   exact ⟨rfl, by exact belC (Below.refl _ _)⟩
theorem only7_any (w : World) (x : OpS) (hk : x.kind = 7) : Calls Tryz.prog 156 #[.agg x.cells.toArray] w fun e w' => e = .returned (.agg x.kept.cells.toArray) ∧ Below w.heap.size w w' := by
 have hkp : x.kept.cells.toArray = #[.int .i64 x.client, .int .i64 x.seq, .int .i64 7, .string (bs x.path), .string ⟨#[]⟩, .int .i64 x.size, .int .i64 0, .int .i64 0, .string ⟨#[]⟩, .int .i64 0, .int .i64 0, .slice none 0 0] := by
  exact mK62
 rw [hkp]
 clear hkp
 obtain ⟨xc, xs, xk, p, q, xz, xh, xo, xt, xi, xn, mp, ml, mc⟩ := x
 simp only at hk
 subst hk
 simp only [OpS.cells]
 go_enter Tryz.func156, Tryz.ntmps156
 go_wp2_with fail
 go_region
 all_goals
   go_wp2_with fail
   refine bodyPost_ret (v := .agg #[.int .i64 xc, .int .i64 xs, .int .i64 7, .string (bs p), .string ⟨#[]⟩, .int .i64 xz, .int .i64 0, .int .i64 0, .string ⟨#[]⟩, .int .i64 0, .int .i64 0, .slice none 0 0]) (by simp [results, Tryz.results156, go_sem, *]) rfl ?_
   exact ⟨rfl, by exact belC (Below.refl _ _)⟩
theorem only8_any (w : World) (x : OpS) (hk : x.kind = 8) : Calls Tryz.prog 156 #[.agg x.cells.toArray] w fun e w' => e = .returned (.agg x.kept.cells.toArray) ∧ Below w.heap.size w w' := by
 have hkp : x.kept.cells.toArray = #[.int .i64 x.client, .int .i64 x.seq, .int .i64 8, .string (bs x.path), .string ⟨#[]⟩, .int .i64 0, .int .i64 0, .int .i64 0, .string ⟨#[]⟩, .int .i64 0, .int .i64 0, .slice none 0 0] := by
  exact mK62
 rw [hkp]
 clear hkp
 obtain ⟨xc, xs, xk, p, q, xz, xh, xo, xt, xi, xn, mp, ml, mc⟩ := x
 simp only at hk
 subst hk
 simp only [OpS.cells]
 go_enter Tryz.func156, Tryz.ntmps156
 go_wp2_with fail
 refine bodyPost_ret (v := .agg #[.int .i64 xc, .int .i64 xs, .int .i64 8, .string (bs p), .string ⟨#[]⟩, .int .i64 0, .int .i64 0, .int .i64 0, .string ⟨#[]⟩, .int .i64 0, .int .i64 0, .slice none 0 0]) (by simp [results, Tryz.results156, go_sem, *]) rfl ?_
 exact ⟨rfl, by exact belC (Below.refl _ _)⟩
theorem only9_any (w : World) (x : OpS) (hk : x.kind = 9) : Calls Tryz.prog 156 #[.agg x.cells.toArray] w fun e w' => e = .returned (.agg x.kept.cells.toArray) ∧ Below w.heap.size w w' := by
 have hkp : x.kept.cells.toArray = #[.int .i64 x.client, .int .i64 x.seq, .int .i64 9, .string ⟨#[]⟩, .string ⟨#[]⟩, .int .i64 0, .int .i64 x.hd, .int .i64 0, .string ⟨#[]⟩, .int .i64 0, .int .i64 0, .slice none 0 0] := by
  exact mK62
 rw [hkp]
 clear hkp
 obtain ⟨xc, xs, xk, p, q, xz, xh, xo, xt, xi, xn, mp, ml, mc⟩ := x
 simp only at hk
 subst hk
 simp only [OpS.cells]
 go_enter Tryz.func156, Tryz.ntmps156
 go_wp2_with fail
 refine bodyPost_ret (v := .agg #[.int .i64 xc, .int .i64 xs, .int .i64 9, .string ⟨#[]⟩, .string ⟨#[]⟩, .int .i64 0, .int .i64 xh, .int .i64 0, .string ⟨#[]⟩, .int .i64 0, .int .i64 0, .slice none 0 0]) (by simp [results, Tryz.results156, go_sem, *]) rfl ?_
 exact ⟨rfl, by exact belC (Below.refl _ _)⟩
theorem only10_any (w : World) (x : OpS) (hk : x.kind = 10) : Calls Tryz.prog 156 #[.agg x.cells.toArray] w fun e w' => e = .returned (.agg x.kept.cells.toArray) ∧ Below w.heap.size w w' := by
 have hkp : x.kept.cells.toArray = #[.int .i64 x.client, .int .i64 x.seq, .int .i64 10, .string ⟨#[]⟩, .string ⟨#[]⟩, .int .i64 0, .int .i64 x.hd, .int .i64 x.off, .string x.data, .int .i64 0, .int .i64 0, .slice none 0 0] := by
  exact mK62
 rw [hkp]
 clear hkp
 obtain ⟨xc, xs, xk, p, q, xz, xh, xo, xt, xi, xn, mp, ml, mc⟩ := x
 simp only at hk
 subst hk
 simp only [OpS.cells]
 go_enter Tryz.func156, Tryz.ntmps156
 go_wp2_with fail
 go_region
 all_goals
   go_wp2_with fail
   refine bodyPost_ret (v := .agg #[.int .i64 xc, .int .i64 xs, .int .i64 10, .string ⟨#[]⟩, .string ⟨#[]⟩, .int .i64 0, .int .i64 xh, .int .i64 xo, .string xt, .int .i64 0, .int .i64 0, .slice none 0 0]) (by simp [results, Tryz.results156, go_sem, *]) rfl ?_
   exact ⟨rfl, by exact belC (Below.refl _ _)⟩
theorem only11_any (w : World) (x : OpS) (hk : x.kind = 11) : Calls Tryz.prog 156 #[.agg x.cells.toArray] w fun e w' => e = .returned (.agg x.kept.cells.toArray) ∧ Below w.heap.size w w' := by
 have hkp : x.kept.cells.toArray = #[.int .i64 x.client, .int .i64 x.seq, .int .i64 11, .string ⟨#[]⟩, .string ⟨#[]⟩, .int .i64 0, .int .i64 0, .int .i64 0, .string ⟨#[]⟩, .int .i64 x.tick, .int .i64 0, .slice none 0 0] := by
  exact mK62
 rw [hkp]
 clear hkp
 obtain ⟨xc, xs, xk, p, q, xz, xh, xo, xt, xi, xn, mp, ml, mc⟩ := x
 simp only at hk
 subst hk
 simp only [OpS.cells]
 go_enter Tryz.func156, Tryz.ntmps156
 go_wp2_with fail
 refine bodyPost_ret (v := .agg #[.int .i64 xc, .int .i64 xs, .int .i64 11, .string ⟨#[]⟩, .string ⟨#[]⟩, .int .i64 0, .int .i64 0, .int .i64 0, .string ⟨#[]⟩, .int .i64 xi, .int .i64 0, .slice none 0 0]) (by simp [results, Tryz.results156, go_sem, *]) rfl ?_
 exact ⟨rfl, by exact belC (Below.refl _ _)⟩
theorem only12_any (w : World) (x : OpS) (hk : x.kind = 12) : Calls Tryz.prog 156 #[.agg x.cells.toArray] w fun e w' => e = .returned (.agg x.kept.cells.toArray) ∧ Below w.heap.size w w' := by
 have hkp : x.kept.cells.toArray = #[.int .i64 x.client, .int .i64 x.seq, .int .i64 12, .string ⟨#[]⟩, .string ⟨#[]⟩, .int .i64 0, .int .i64 0, .int .i64 0, .string ⟨#[]⟩, .int .i64 x.tick, .int .i64 0, .slice none 0 0] := by
  exact mK62
 rw [hkp]
 clear hkp
 obtain ⟨xc, xs, xk, p, q, xz, xh, xo, xt, xi, xn, mp, ml, mc⟩ := x
 simp only at hk
 subst hk
 simp only [OpS.cells]
 go_enter Tryz.func156, Tryz.ntmps156
 go_wp2_with fail
 refine bodyPost_ret (v := .agg #[.int .i64 xc, .int .i64 xs, .int .i64 12, .string ⟨#[]⟩, .string ⟨#[]⟩, .int .i64 0, .int .i64 0, .int .i64 0, .string ⟨#[]⟩, .int .i64 xi, .int .i64 0, .slice none 0 0]) (by simp [results, Tryz.results156, go_sem, *]) rfl ?_
 exact ⟨rfl, by exact belC (Below.refl _ _)⟩
theorem only13_any (w : World) (x : OpS) (hk : x.kind = 13) : Calls Tryz.prog 156 #[.agg x.cells.toArray] w fun e w' => e = .returned (.agg x.kept.cells.toArray) ∧ Below w.heap.size w w' := by
 have hkp : x.kept.cells.toArray = #[.int .i64 x.client, .int .i64 x.seq, .int .i64 13, .string ⟨#[]⟩, .string ⟨#[]⟩, .int .i64 0, .int .i64 0, .int .i64 0, .string x.data, .int .i64 0, .int .i64 x.ino, .slice x.mp x.ml x.mc] := by
  exact mK62
 rw [hkp]
 clear hkp
 obtain ⟨xc, xs, xk, p, q, xz, xh, xo, xt, xi, xn, mp, ml, mc⟩ := x
 simp only at hk
 subst hk
 simp only [OpS.cells]
 go_enter Tryz.func156, Tryz.ntmps156
 go_wp2_with fail
 go_region
 all_goals
   go_wp2_with fail
   refine bodyPost_ret (v := .agg #[.int .i64 xc, .int .i64 xs, .int .i64 13, .string ⟨#[]⟩, .string ⟨#[]⟩, .int .i64 0, .int .i64 0, .int .i64 0, .string xt, .int .i64 0, .int .i64 xn, .slice mp ml mc]) (by simp [results, Tryz.results156, go_sem, *]) rfl ?_
   exact ⟨rfl, by exact belC (Below.refl _ _)⟩
theorem only14_any (w : World) (x : OpS) (hk : x.kind = 14) : Calls Tryz.prog 156 #[.agg x.cells.toArray] w fun e w' => e = .returned (.agg x.kept.cells.toArray) ∧ Below w.heap.size w w' := by
 have hkp : x.kept.cells.toArray = #[.int .i64 x.client, .int .i64 x.seq, .int .i64 14, .string ⟨#[]⟩, .string ⟨#[]⟩, .int .i64 x.size, .int .i64 0, .int .i64 x.off, .string x.data, .int .i64 0, .int .i64 0, .slice none 0 0] := by
  exact mK62
 rw [hkp]
 clear hkp
 obtain ⟨xc, xs, xk, p, q, xz, xh, xo, xt, xi, xn, mp, ml, mc⟩ := x
 simp only at hk
 subst hk
 simp only [OpS.cells]
 go_enter Tryz.func156, Tryz.ntmps156
 go_wp2_with fail
 go_region
 all_goals
   go_wp2_with fail
   refine bodyPost_ret (v := .agg #[.int .i64 xc, .int .i64 xs, .int .i64 14, .string ⟨#[]⟩, .string ⟨#[]⟩, .int .i64 xz, .int .i64 0, .int .i64 xo, .string xt, .int .i64 0, .int .i64 0, .slice none 0 0]) (by simp [results, Tryz.results156, go_sem, *]) rfl ?_
   exact ⟨rfl, by exact belC (Below.refl _ _)⟩
theorem kept_no (x : OpS) (hk : x.kind < 1 ∨ 14 < x.kind) : x.kept = opN x.client x.seq x.kind := by
 unfold OpS.kept
 have : fldL x.kind.toNat = [] := by
  by_cases h : x.kind < 1
  · rw [show x.kind.toNat = 0 by omega]; rfl
  · exact mK14
 rw [this]
 rfl
theorem only0_any (w : World) (x : OpS) (hk : x.kind < 1 ∨ 14 < x.kind) : Calls Tryz.prog 156 #[.agg x.cells.toArray] w fun e w' => e = .returned (.agg x.kept.cells.toArray) ∧ Below w.heap.size w w' := by
 rw [kept_no x hk]
 obtain ⟨xc, xs, xk, p, q, xz, xh, xo, xt, xi, xn, mp, ml, mc⟩ := x
 simp only at hk ⊢
 have n1 : (xk == 1) = false := by simp; omega
 have n2 : (xk == 2) = false := by simp; omega
 have n3 : (xk == 3) = false := by simp; omega
 have n4 : (xk == 4) = false := by simp; omega
 have n5 : (xk == 5) = false := by simp; omega
 have n6 : (xk == 6) = false := by simp; omega
 have n7 : (xk == 7) = false := by simp; omega
 have n8 : (xk == 8) = false := by simp; omega
 have n9 : (xk == 9) = false := by simp; omega
 have n10 : (xk == 10) = false := by simp; omega
 have n11 : (xk == 11) = false := by simp; omega
 have n12 : (xk == 12) = false := by simp; omega
 have n13 : (xk == 13) = false := by simp; omega
 have n14 : (xk == 14) = false := by simp; omega
 clear hk
 simp only [OpS.cells, opN]
 go_enter Tryz.func156, Tryz.ntmps156
 go_wp2_with fail
 refine bodyPost_ret (v := .agg #[.int .i64 xc, .int .i64 xs, .int .i64 xk, .string ⟨#[]⟩, .string ⟨#[]⟩, .int .i64 0, .int .i64 0, .int .i64 0, .string ⟨#[]⟩, .int .i64 0, .int .i64 0, .slice none 0 0]) (by simp [results, Tryz.results156, go_sem, *]) rfl ?_
 exact ⟨rfl, by exact belC (Below.refl _ _)⟩
theorem only_any (w : World) (x : OpS) : Calls Tryz.prog 156 #[.agg x.cells.toArray] w fun e w' => e = .returned (.agg x.kept.cells.toArray) ∧ Below w.heap.size w w' := by
 by_cases h : x.kind < 1 ∨ 14 < x.kind
 · exact only0_any w x h
 have h14 : x.kind = 1 ∨ x.kind = 2 ∨ x.kind = 3 ∨ x.kind = 4 ∨ x.kind = 5 ∨ x.kind = 6 ∨ x.kind = 7 ∨ x.kind = 8 ∨ x.kind = 9 ∨ x.kind = 10 ∨ x.kind = 11 ∨ x.kind = 12 ∨ x.kind = 13 ∨ x.kind = 14 := by omega
 rcases h14 with h | h | h | h | h | h | h | h | h | h | h | h | h | h
 · exact only1_any w x h
 · exact only2_any w x h
 · exact only3_any w x h
 · exact only4_any w x h
 · exact only5_any w x h
 · exact only6_any w x h
 · exact only7_any w x h
 · exact only8_any w x h
 · exact only9_any w x h
 · exact only10_any w x h
 · exact only11_any w x h
 · exact only12_any w x h
 · exact only13_any w x h
 · exact only14_any w x h
end Go.Proofs.YtajbooppoohplaaGreatDoor
/- keep.Op: are two records alike? -/
namespace Go.Proofs.YtajbooppoohplaaGreatDoor
open Go.RowKit Esch

set_option linter.unusedSimpArgs false
def KOpRel (w : World) (B : Nat) (l : List Mv) (g : Nat) (v : Value) (wr : World) : Prop := ∃ i : Nat, g = l.length - i ∧ i ≤ l.length ∧ v = .int .i64 i ∧ Below B w wr
theorem kOp_any (w : World) (x y : OpS) (mv nv : List Mv) (hx : OpIn w x mv) (hy : RwAt w (fun _ => True) 4 y.ml y.mp (nv.flatMap mvC)) (hyl : y.ml = nv.length) (h16 : mv.length ≤ 100000) (hq : x.ml = y.ml → mv = nv) :
    Calls Tryz.prog 155 #[.agg x.cells.toArray, .agg y.cells.toArray] w (BoolB w (x.alike y)) := by
 obtain ⟨xc, xs, xk, p, q, xz, xh, xo, xt, xi, xn, mp, ml, mc⟩ := x
 obtain ⟨yc, ys, yk, p2, q2, yz, yh, yo, yt, yi, yn, np, nl, nc⟩ := y
 obtain ⟨hlen, hrow, -, -⟩ := hx
 simp only at hlen hrow hy hyl hq
 subst hlen
 subst hyl
 unfold OpS.alike
 simp only [OpS.cells]
 by_cases h0 : xc = yc
 rotate_left 1
 · have e0 : (xc != yc) = true := by simpa using h0
   rw [decide_eq_false h0]
   simp only [Bool.false_and, Bool.and_false, decide_true, Bool.true_and]
   clear h0 hrow hy hq
   exact mK64
 subst h0
 by_cases h1 : xs = ys
 rotate_left 1
 · have e1 : (xs != ys) = true := by simpa using h1
   rw [decide_eq_false h1]
   simp only [Bool.false_and, Bool.and_false, decide_true, Bool.true_and]
   clear h1 hrow hy hq
   exact mK64
 subst h1
 by_cases h2 : xk = yk
 rotate_left 1
 · have e2 : (xk != yk) = true := by simpa using h2
   rw [decide_eq_false h2]
   simp only [Bool.false_and, Bool.and_false, decide_true, Bool.true_and]
   clear h2 hrow hy hq
   exact mK64
 subst h2
 by_cases h3 : p = p2
 rotate_left 1
 · have e3 : ((bs p).toList == (bs p2).toList) = false := by rw [bs_eq_iff, decide_eq_false h3]
   rw [decide_eq_false h3]
   simp only [Bool.false_and, Bool.and_false, decide_true, Bool.true_and]
   clear h3 hrow hy hq
   exact mK64
 subst h3
 by_cases h4 : q = q2
 rotate_left 1
 · have e4 : ((bs q).toList == (bs q2).toList) = false := by rw [bs_eq_iff, decide_eq_false h4]
   rw [decide_eq_false h4]
   simp only [Bool.false_and, Bool.and_false, decide_true, Bool.true_and]
   clear h4 hrow hy hq
   exact mK64
 subst h4
 by_cases h5 : xz = yz
 rotate_left 1
 · have e5 : (xz != yz) = true := by simpa using h5
   rw [decide_eq_false h5]
   simp only [Bool.false_and, Bool.and_false, decide_true, Bool.true_and]
   clear h5 hrow hy hq
   exact mK64
 subst h5
 by_cases h6 : xh = yh
 rotate_left 1
 · have e6 : (xh != yh) = true := by simpa using h6
   rw [decide_eq_false h6]
   simp only [Bool.false_and, Bool.and_false, decide_true, Bool.true_and]
   clear h6 hrow hy hq
   exact mK64
 subst h6
 by_cases h7 : xo = yo
 rotate_left 1
 · have e7 : (xo != yo) = true := by simpa using h7
   rw [decide_eq_false h7]
   simp only [Bool.false_and, Bool.and_false, decide_true, Bool.true_and]
   clear h7 hrow hy hq
   exact mK64
 subst h7
 by_cases h8 : xt = yt
 rotate_left 1
 · have e8 : (xt.toList == yt.toList) = false := by rw [bytes_beq, decide_eq_false h8]
   rw [decide_eq_false h8]
   simp only [Bool.false_and, Bool.and_false, decide_true, Bool.true_and]
   clear h8 hrow hy hq
   exact mK64
 subst h8
 by_cases h9 : xi = yi
 rotate_left 1
 · have e9 : (xi != yi) = true := by simpa using h9
   rw [decide_eq_false h9]
   simp only [Bool.false_and, Bool.and_false, decide_true, Bool.true_and]
   clear h9 hrow hy hq
   exact mK64
 subst h9
 by_cases h10 : xn = yn
 rotate_left 1
 · have e10 : (xn != yn) = true := by simpa using h10
   rw [decide_eq_false h10]
   simp only [Bool.false_and, Bool.and_false, decide_true, Bool.true_and]
   clear h10 hrow hy hq
   exact mK64
 subst h10
 simp only [decide_true, Bool.true_and]
 by_cases hl : mv.length = nv.length
 rotate_left 1
 · have el : ((mv.length : Int) != nv.length) = true := by simp only [bne_iff_ne, ne_eq]; omega
   rw [decide_eq_false hl]
   clear hl hrow hy hq
   exact mK64
 obtain rfl := hq hl
 rw [decide_eq_true hl]
 have HX := Lib.hid hrow
 have HY := Lib.hid hy
 obtain ⟨n, hn⟩ : ∃ n, n = mv.length := ⟨_, rfl⟩
 rw [← hn] at h16 ⊢
 have HN := Lib.hid hn
 obtain ⟨W1, hW1⟩ : ∃ W1, W1 = (w.alloc (.cells #[.int .i64 xc, .int .i64 xs, .int .i64 xk, .string (bs p), .string (bs q), .int .i64 xz, .int .i64 xh, .int .i64 xo, .string xt, .int .i64 xi, .int .i64 xn, .slice mp n mc] 31)).alloc (.cells #[.int .i64 xc, .int .i64 xs, .int .i64 xk, .string (bs p), .string (bs q), .int .i64 xz, .int .i64 xh, .int .i64 xo, .string xt, .int .i64 xi, .int .i64 xn, .slice np n nc] 31) := ⟨_, rfl⟩
 have hB1 : Below w.heap.size w W1 := by rw [hW1]; exact belC (Below.refl _ _)
 have a11 : W1.cell? ⟨w.heap.size, 11, none⟩ = some (.slice mp n mc) := by rw [hW1]; go_simp
 have b11 : W1.cell? ⟨w.heap.size + 1, 11, none⟩ = some (.slice np n nc) := by rw [hW1]; go_simp
 have hz1 : W1.heap.size = w.heap.size + 2 := by rw [hW1]; simp
 have HW1 := Lib.hid hW1
 have HB1 := Lib.hid hB1
 have HA := Lib.hid a11
 have HBb := Lib.hid b11
 have HZ1 := Lib.hid hz1
 clear hW1 hB1 hq hl hrow hy hn a11 b11 hz1
 go_enter Tryz.func155, Tryz.ntmps155
 go_wp2_with fail
 rw [← HW1.out]
 go_loopg [5] n (fun g s5 wr => KOpRel W1 W1.heap.size mv g s5 wr)
 case atStart => exact ⟨0, by rw [← HN.out]; rfl, Nat.zero_le _, rfl, Below.refl _ _⟩
 case round =>
  obtain ⟨i, hg, hi, rfl, hB⟩ := hrel
  rw [← HN.out] at hg hi
  subst hg
  have HB := Lib.hid hB
  have a11 := below_at hB HA.out (cell_lt HA.out)
  have b11 := below_at hB HBb.out (cell_lt HBb.out)
  clear hB
  by_cases hlt : i < n
  · have hix : i < mv.length := by have := HN.out; omega
    obtain ⟨xb, xo', rfl, -, hxl, hxc⟩ := HX.out.elem mvC_len default hix
    obtain ⟨yb, yo', rfl, -, hyl, hyc⟩ := HY.out.elem mvC_len default hix
    generalize mv.getD i default = u at *
    obtain ⟨u0, u1, u2, u3⟩ := u
    have f0 : wr.cell? ⟨xb, xo' + i * 4, none⟩ = some (.int .i64 u0) := below_at HB.out (below_at HB1.out (hxc 0 (by decide)) hxl) (Nat.lt_of_lt_of_le hxl HB1.out.size)
    have f1 : wr.cell? ⟨xb, xo' + i * 4 + 1, none⟩ = some (.int .i64 u1) := below_at HB.out (below_at HB1.out (hxc 1 (by decide)) hxl) (Nat.lt_of_lt_of_le hxl HB1.out.size)
    have f2 : wr.cell? ⟨xb, xo' + i * 4 + 2, none⟩ = some (.int .i64 u2) := below_at HB.out (below_at HB1.out (hxc 2 (by decide)) hxl) (Nat.lt_of_lt_of_le hxl HB1.out.size)
    have f3 : wr.cell? ⟨xb, xo' + i * 4 + 3, none⟩ = some (.int .i64 u3) := below_at HB.out (below_at HB1.out (hxc 3 (by decide)) hxl) (Nat.lt_of_lt_of_le hxl HB1.out.size)
    have g0 : wr.cell? ⟨yb, yo' + i * 4, none⟩ = some (.int .i64 u0) := below_at HB.out (below_at HB1.out (hyc 0 (by decide)) hyl) (Nat.lt_of_lt_of_le hyl HB1.out.size)
    have g1 : wr.cell? ⟨yb, yo' + i * 4 + 1, none⟩ = some (.int .i64 u1) := below_at HB.out (below_at HB1.out (hyc 1 (by decide)) hyl) (Nat.lt_of_lt_of_le hyl HB1.out.size)
    have g2 : wr.cell? ⟨yb, yo' + i * 4 + 2, none⟩ = some (.int .i64 u2) := below_at HB.out (below_at HB1.out (hyc 2 (by decide)) hyl) (Nat.lt_of_lt_of_le hyl HB1.out.size)
    have g3 : wr.cell? ⟨yb, yo' + i * 4 + 3, none⟩ = some (.int .i64 u3) := below_at HB.out (below_at HB1.out (hyc 3 (by decide)) hyl) (Nat.lt_of_lt_of_le hyl HB1.out.size)
    have hxl' := cell_lt f0
    have hyl' := cell_lt g0
    have hal' := cell_lt a11
    have hbl' := cell_lt b11
    have hil2 : (0 : Int) ≤ i ∧ (i : Int) < n := by omega
    have hi1 : i + 1 ≤ n := hlt
    have hms : n - (i + 1) < n - i := by omega
    have hwr1 := Lib.hid (show wrap64 ((i : Int) + 1) = ((i + 1 : Nat) : Int) by unfold wrap64; omega)
    have hzB := HB.out.size
    clear hxc hyc
    go_wp2_with fail
    refine wp_region_held_drew (S := fun W' => W'.cell? ⟨w.heap.size, 11, none⟩ = some (.slice (some ⟨xb, xo', none⟩) n mc) ∧ W'.cell? ⟨w.heap.size + 1, 11, none⟩ = some (.slice (some ⟨yb, yo', none⟩) n nc) ∧ W'.cell? ⟨xb, xo' + i * 4, none⟩ = some (.int .i64 u0) ∧ W'.cell? ⟨xb, xo' + i * 4 + 1, none⟩ = some (.int .i64 u1) ∧ W'.cell? ⟨xb, xo' + i * 4 + 2, none⟩ = some (.int .i64 u2) ∧ W'.cell? ⟨xb, xo' + i * 4 + 3, none⟩ = some (.int .i64 u3) ∧ W'.cell? ⟨yb, yo' + i * 4, none⟩ = some (.int .i64 u0) ∧ W'.cell? ⟨yb, yo' + i * 4 + 1, none⟩ = some (.int .i64 u1) ∧ W'.cell? ⟨yb, yo' + i * 4 + 2, none⟩ = some (.int .i64 u2) ∧ W'.cell? ⟨yb, yo' + i * 4 + 3, none⟩ = some (.int .i64 u3)) (by kernel_rfl) ⟨a11, b11, f0, f1, f2, f3, g0, g1, g2, g3⟩ (fun hHeld => ?_)
    refine takeL 0 ?_
    refine takeL 1 ?_
    refine takeL 2 ?_
    refine takeL 3 ?_
    refine takeL 4 ?_
    refine takeL 5 ?_
    refine takeL 6 ?_
    refine takeL 7 ?_
    refine takeL 8 ?_
    refine takeL 9 ?_
    refine wpAnyH_ready (rs := [10, 11]) (by kernel_rfl) (by simp) ?_
    refine AllReadyH.cons (o := _) rfl (fun K hK => ?_) (AllReadyH.cons (o := _) rfl (fun K hK => ?_) AllReadyH.nil)
    · go_simp
      try go_wp2_with fail
      refine hK.out _ _ ⟨by go_simp, by go_simp, by go_simp, by go_simp, by go_simp, by go_simp, by go_simp, by go_simp, by go_simp, by go_simp⟩ (fun hHeld => ?_)
      clear hK K
      try simp only [Act.put, List.setIfInBounds_toArray, List.set_cons_zero, List.set_cons_succ]
      refine wpAnyH_ready (rs := [11]) (by kernel_rfl) (by simp) ?_
      exact mK63
    · go_simp
      try go_wp2_with fail
      refine hK.out _ _ ⟨by go_simp, by go_simp, by go_simp, by go_simp, by go_simp, by go_simp, by go_simp, by go_simp, by go_simp, by go_simp⟩ (fun hHeld => ?_)
      clear hK K
      try simp only [Act.put, List.setIfInBounds_toArray, List.set_cons_zero, List.set_cons_succ]
      refine wpAnyH_ready (rs := [10]) (by kernel_rfl) (by simp) ?_
      exact mK63
  · obtain rfl : i = n := by omega
    have hge : ¬ (i : Int) < i := by omega
    clear hlt
    go_wp2_with fail
    go_ret
    exact ⟨rfl, HB1.out.trans (HB.out.mono HB1.out.size)⟩
theorem kOp_kept (w : World) (x : OpS) (mv : List Mv) (hx : OpIn w x mv) (h16 : mv.length ≤ 100000) :
    Calls Tryz.prog 155 #[.agg x.cells.toArray, .agg x.kept.cells.toArray] w (BoolB w (x.alike x.kept)) := by
 rcases kept_moves x with ⟨h1, h2⟩ | ⟨h1, h2⟩
 · refine kOp_any w x x.kept mv [] hx (by rw [h1]; exact RwAt.nil _ _ _ _) h1 h16 (fun h => ?_)
   rw [h1, hx.len] at h
   exact List.length_eq_zero_iff.1 h
 · exact kOp_any w x x.kept mv mv hx (by rw [h1, h2, hx.len]; exact hx.row) (by rw [h1, hx.len]) h16 (fun _ => rfl)
end Go.Proofs.YtajbooppoohplaaGreatDoor
/- a record in a box of its own: what is told of it stays -/
namespace Esch
open Go Go.RowKit
theorem _root_.Go.Calls.same {P : Program} {f : FuncId} {av : Array Value} {w : World} {v : Value} {Q : Ending → World → Prop} (h : Calls P f av w fun e w' => e = .returned v ∧ w' = w) (hQ : Q (.returned v) w) : Calls P f av w Q :=
  h.mono fun e w' h => by obtain ⟨rfl, rfl⟩ := h; exact hQ
theorem _root_.Go.Calls.low {P : Program} {f : FuncId} {av : Array Value} {w : World} {v : Value} {Q : Ending → World → Prop} (h : Calls P f av w fun e w' => e = .returned v ∧ Below w.heap.size w w') (hQ : ∀ w', Below w.heap.size w w' → Q (.returned v) w') : Calls P f av w Q :=
  h.mono fun e w' h => by obtain ⟨rfl, h⟩ := h; exact hQ w' h
structure OpBx (w : World) (x : OpS) (W : World) : Prop where
  c : ∀ j, j < 12 → W.cell? ⟨w.heap.size, j, none⟩ = x.cells[j]?
  b : Below w.heap.size w W
  h : w.heap.size < W.heap.size
theorem OpBx.new (w : World) (x : OpS) (t : TypeId) : OpBx w x (w.alloc (.cells x.cells.toArray t)) := by
 have hh : (w.alloc (.cells x.cells.toArray t)).heap[w.heap.size]? = some (.cells x.cells.toArray t) := heap_alloc_new _ _
 exact ⟨fun j _ => by unfold World.cell?; simp only [hh]; simp, (Below.refl _ w).alloc (Nat.le_refl _) _, by simp⟩
theorem OpBx.below {w W W' : World} {x : OpS} (h : OpBx w x W) (hB : Below W.heap.size W W') : OpBx w x W' :=
  ⟨fun j hj => (hB.cell (p := ⟨w.heap.size, j, none⟩) h.h).trans (h.c j hj), h.b.trans (hB.mono h.b.size), Nat.lt_of_lt_of_le h.h hB.size⟩
theorem OpBx.drew {w W : World} {x : OpS} (h : OpBx w x W) : OpBx w x W.drew := ⟨h.c, h.b.drew, h.h⟩
theorem OpBx.parts {w W : World} {xc xs xk : Int} {p q : Nm} {xz xh xo : Int} {xt : ByteArray} {xi xn : Int} {mp : Option Addr} {ml mc : Nat} (h : OpBx w ⟨xc, xs, xk, p, q, xz, xh, xo, xt, xi, xn, mp, ml, mc⟩ W) : W.cell? ⟨w.heap.size, 0, none⟩ = some (.int .i64 xc) ∧ W.cell? ⟨w.heap.size, 1, none⟩ = some (.int .i64 xs) ∧ W.cell? ⟨w.heap.size, 2, none⟩ = some (.int .i64 xk) ∧ W.cell? ⟨w.heap.size, 3, none⟩ = some (.string (bs p)) ∧ W.cell? ⟨w.heap.size, 4, none⟩ = some (.string (bs q)) ∧ W.cell? ⟨w.heap.size, 5, none⟩ = some (.int .i64 xz) ∧ W.cell? ⟨w.heap.size, 6, none⟩ = some (.int .i64 xh) ∧ W.cell? ⟨w.heap.size, 7, none⟩ = some (.int .i64 xo) ∧ W.cell? ⟨w.heap.size, 8, none⟩ = some (.string xt) ∧ W.cell? ⟨w.heap.size, 9, none⟩ = some (.int .i64 xi) ∧ W.cell? ⟨w.heap.size, 10, none⟩ = some (.int .i64 xn) ∧ W.cell? ⟨w.heap.size, 11, none⟩ = some (.slice mp ml mc) :=
  ⟨h.c 0 (by decide), h.c 1 (by decide), h.c 2 (by decide), h.c 3 (by decide), h.c 4 (by decide), h.c 5 (by decide), h.c 6 (by decide), h.c 7 (by decide), h.c 8 (by decide), h.c 9 (by decide), h.c 10 (by decide), h.c 11 (by decide)⟩
section
variable {P : Program} {ops : Array Oper} {Q : Exit → Act → World → Prop} {w : World} {xc xs xk : Int} {p q : Nm} {xz xh xo : Int} {xt : ByteArray} {xi xn : Int} {mp : Option Addr} {ml mc : Nat}
theorem kwO {o : Oper} {rest : List Oper} {a a' : Act} (h : KWalk P ops (OpBx w ⟨xc, xs, xk, p, q, xz, xh, xo, xt, xi, xn, mp, ml, mc⟩) Q rest a') (hx : ∃ v, Region.wanted o (yielded ops a.tmps) = true ∧ (∀ W, OpBx w ⟨xc, xs, xk, p, q, xz, xh, xo, xt, xi, xn, mp, ml, mc⟩ W → (execOp a.eval o).run P W = .ok (.value v) W) ∧ a' = a.put o.dst v := by (refine ⟨?_, by rfl, ?_, ?_⟩; rotate_left 1; (· intro W hSw; obtain ⟨c0, c1, c2, c3, c4, c5, c6, c7, c8, c9, c10, c11⟩ := hSw.parts; clear hSw; go_simp; try with_reducible rfl); (· simp only [Act.put, List.setIfInBounds_toArray, List.set_cons_zero, List.set_cons_succ]; rfl))) : KWalk P ops (OpBx w ⟨xc, xs, xk, p, q, xz, xh, xo, xt, xi, xn, mp, ml, mc⟩) Q (o :: rest) a := kwL h hx
end
section
variable {P : Program} {ops : Array Oper} {Q : Exit → Act → World → Prop} {w : World} {S : World → Prop}
/-- a call that tells v wherever S is, and keeps it -/
theorem kwC {o : Oper} {rest : List Oper} {a a' : Act} {v : Value} {f : FuncId} {args : Array Value} (hc : ∀ W, S W → Calls P f args W fun e W' => e = .returned v ∧ S W') (h : KWalk P ops S Q rest a') (hx : Region.wanted o (yielded ops a.tmps) = true ∧ (∀ W, S W → (execOp a.eval o).run P W = .ok (.enter f args) W) ∧ a' = a.put o.dst v := by (refine ⟨by rfl, ?_, ?_⟩; (· intro W _; go_simp; try with_reducible rfl); (· simp only [Act.put, List.setIfInBounds_toArray, List.set_cons_zero, List.set_cons_succ]; rfl))) : KWalk P ops S Q (o :: rest) a :=
  kw_call hx.1 hx.2.1 hc hx.2.2 h
end
end Esch
/- the document's Good of a record -/
namespace Esch
open Go Go.RowKit
theorem goodMv_doc (dl : Nat) (a b c d : Int) (hd : dl ≤ 1024) : goodMv dl (a, b, c, d) = (winB a 0 16383 && (winB b 0 1024 && (winB c 1 1024 && (winB d 0 1024 && decide (d + c ≤ dl))))) := by
 unfold goodMv
 simp only
 congr 2
 by_cases hc : winB c 1 1024 = true
 · have := hc
   simp only [winB, Bool.and_eq_true, decide_eq_true_eq] at this
   rw [hc, Bool.true_and, Bool.true_and]
   by_cases e0 : 0 ≤ d <;> by_cases e1 : d ≤ (dl : Int) - c <;> by_cases e2 : d ≤ 1024 <;> by_cases e3 : d + c ≤ (dl : Int) <;> first | omega | simp [winB, e0, e1, e2, e3]
 · have : winB c 1 1024 = false := by simpa using hc
   rw [this, Bool.false_and, Bool.false_and]
theorem mvAll_bad {l : List Mv} {p : Mv → Bool} {i : Nat} (hi : i < l.length) (h : p (l.getD i default) = false) : l.all p = false := by
 rw [List.all_eq_false]
 refine ⟨l.getD i default, ?_, by simpa using h⟩
 rw [List.getD_eq_getElem?_getD, List.getElem?_eq_getElem hi]
 exact List.getElem_mem hi
theorem mvAll_next {l : List Mv} {p : Mv → Bool} {i : Nat} (hi : i < l.length) (h0 : (l.take i).all p = true) (h : p (l.getD i default) = true) : (l.take (i + 1)).all p = true := by
 rw [take_one l default hi, List.all_append, h0, Bool.true_and, List.all_cons, h]
 rfl
theorem good_img (n : Nat) (z o : Int) (_h1 : winB n 1 1024 = true) (_h2 : winB z 1 65536 = true) (h3 : winB o 0 z = true) : decide (o + n ≤ z) = winB o 0 (z - n) := by
 simp only [winB, Bool.and_eq_true, decide_eq_true_eq] at *
 by_cases h : o + n ≤ z
 · rw [decide_eq_true h, decide_eq_true (show (0 : Int) ≤ o by omega), decide_eq_true (show o ≤ z - n by omega)]; rfl
 · rw [decide_eq_false h, decide_eq_false (show ¬ o ≤ z - n by omega), Bool.and_false]
theorem good_img' (n : Nat) (z o : Int) (h1 : winB n 1 1024 = true) (h3 : winB o 0 z = false) : winB o 0 (z - n) = false := by
 simp only [winB, Bool.and_eq_true, decide_eq_true_eq, Bool.and_eq_false_iff, decide_eq_false_iff_not] at *
 omega
structure RGd (w : World) (x : OpS) (mv : List Mv) : Prop where
  h : OpIn w x mv
  l : mv.length ≤ 100000
  p : x.path.length ≤ 100000
  q : x.dest.length ≤ 100000
def GmRel (w0 : World) (x : OpS) (mv : List Mv) (dl n : Nat) (g : Nat) (v : Value) (wr : World) : Prop := ∃ i, g = n - i ∧ i ≤ n ∧ v = .int .i64 i ∧ OpBx w0 x wr ∧ (mv.take i).all (goodMv dl) = true
end Esch
namespace Go.Proofs.YtajbooppoohplaaGreatDoor
open Go.RowKit Esch

theorem rInS {w : World} {x : OpS} (n a b : Int) (W : World) (h : OpBx w x W) : Calls Tryz.prog 154 #[.int .i64 n, .int .i64 a, .int .i64 b] W fun e W' => e = .returned (.bool (winB n a b)) ∧ OpBx w x W' :=
  (rIn_any n a b W).same ⟨rfl, h⟩
/-- the three calls of the first test -/
structure RHead (w : World) (x : OpS) (b1 b2 b3 : Bool) : Prop where
  g1 : ∀ W, OpBx w x W → Calls Tryz.prog 154 #[.int .i64 x.client, .int .i64 0, .int .i64 7] W fun e W' => e = .returned (.bool b1) ∧ OpBx w x W'
  g2 : ∀ W, OpBx w x W → Calls Tryz.prog 154 #[.int .i64 x.seq, .int .i64 1, .int .i64 2147483647] W fun e W' => e = .returned (.bool b2) ∧ OpBx w x W'
  g3 : ∀ W, OpBx w x W → Calls Tryz.prog 156 #[.agg x.cells.toArray] W fun e W' => e = .returned (.agg x.kept.cells.toArray) ∧ OpBx w x W'
  g4 : ∀ W, OpBx w x W → Calls Tryz.prog 155 #[.agg x.cells.toArray, .agg x.kept.cells.toArray] W fun e W' => e = .returned (.bool b3) ∧ OpBx w x W'
theorem rhead {w : World} {x : OpS} {mv : List Mv} (hR : RGd w x mv) {b1 b2 b3 : Bool} (h1 : winB x.client 0 7 = b1) (h2 : winB x.seq 1 2147483647 = b2) (h3 : x.alike x.kept = b3) : RHead w x b1 b2 b3 := by
 subst h1 h2 h3
 exact ⟨rInS _ _ _, rInS _ _ _, fun W hW => (only_any W x).low fun W' hB => ⟨rfl, hW.below hB⟩, fun W hW => (kOp_kept W x mv (hR.h.below' hW.b) hR.l).low fun W' hB => ⟨rfl, hW.below hB⟩⟩
theorem rgood_no (w : World) (x : OpS) (b1 b2 b3 : Bool) (hh : RHead w x b1 b2 b3) (hb : (b1 && b2 && b3) = false) : Calls Tryz.prog 108 #[.agg x.cells.toArray] w (BoolB w false) := by
 obtain ⟨xc, xs, xk, p, q, xz, xh, xo, xt, xi, xn, mp, ml, mc⟩ := x
 cases b1
 · exact mK65
 cases b2
 · exact mK65
 cases b3
 · exact mK65
 cases hb
theorem rgk1 (w : World) (xc xs : Int) (p q : Nm) (xz xh xo : Int) (xt : ByteArray) (xi xn : Int) (mp : Option Addr) (ml mc : Nat) (hp : p.length ≤ 100000) (hh : RHead w ⟨xc, xs, 1, p, q, xz, xh, xo, xt, xi, xn, mp, ml, mc⟩ true true true) : Calls Tryz.prog 108 #[.agg (OpS.mk xc xs 1 p q xz xh xo xt xi xn mp ml mc).cells.toArray] w (BoolB w ((namesOf p).isSome)) := by
 have gp := fun W => rGood_any W p hp
 clear hp
 obtain ⟨g1, g2, g3, g4⟩ := hh
 try simp only [OpS.cells] at g1 g2 g3 g4
 simp only [OpS.cells]
 go_enter Tryz.func108, Tryz.ntmps108
 go_wp2_with fail
 refine region_kwalk (S := OpBx w ⟨xc, xs, 1, p, q, xz, xh, xo, xt, xi, xn, mp, ml, mc⟩) (by kernel_rfl) (by kernel_rfl) (by kernel_rfl) (OpBx.new w ⟨xc, xs, 1, p, q, xz, xh, xo, xt, xi, xn, mp, ml, mc⟩ 31).drew ?_
 exact mK66
theorem rgk2 (w : World) (xc xs : Int) (p q : Nm) (xz xh xo : Int) (xt : ByteArray) (xi xn : Int) (mp : Option Addr) (ml mc : Nat) (hp : p.length ≤ 100000) (hh : RHead w ⟨xc, xs, 2, p, q, xz, xh, xo, xt, xi, xn, mp, ml, mc⟩ true true true) : Calls Tryz.prog 108 #[.agg (OpS.mk xc xs 2 p q xz xh xo xt xi xn mp ml mc).cells.toArray] w (BoolB w ((namesOf p).isSome)) := by
 have gp := fun W => rGood_any W p hp
 clear hp
 obtain ⟨g1, g2, g3, g4⟩ := hh
 try simp only [OpS.cells] at g1 g2 g3 g4
 simp only [OpS.cells]
 go_enter Tryz.func108, Tryz.ntmps108
 go_wp2_with fail
 refine region_kwalk (S := OpBx w ⟨xc, xs, 2, p, q, xz, xh, xo, xt, xi, xn, mp, ml, mc⟩) (by kernel_rfl) (by kernel_rfl) (by kernel_rfl) (OpBx.new w ⟨xc, xs, 2, p, q, xz, xh, xo, xt, xi, xn, mp, ml, mc⟩ 31).drew ?_
 exact mK66
theorem rgk3 (w : World) (xc xs : Int) (p q : Nm) (xz xh xo : Int) (xt : ByteArray) (xi xn : Int) (mp : Option Addr) (ml mc : Nat) (hp : p.length ≤ 100000) (hh : RHead w ⟨xc, xs, 3, p, q, xz, xh, xo, xt, xi, xn, mp, ml, mc⟩ true true true) : Calls Tryz.prog 108 #[.agg (OpS.mk xc xs 3 p q xz xh xo xt xi xn mp ml mc).cells.toArray] w (BoolB w ((namesOf p).isSome)) := by
 have gp := fun W => rGood_any W p hp
 clear hp
 obtain ⟨g1, g2, g3, g4⟩ := hh
 try simp only [OpS.cells] at g1 g2 g3 g4
 simp only [OpS.cells]
 go_enter Tryz.func108, Tryz.ntmps108
 go_wp2_with fail
 refine region_kwalk (S := OpBx w ⟨xc, xs, 3, p, q, xz, xh, xo, xt, xi, xn, mp, ml, mc⟩) (by kernel_rfl) (by kernel_rfl) (by kernel_rfl) (OpBx.new w ⟨xc, xs, 3, p, q, xz, xh, xo, xt, xi, xn, mp, ml, mc⟩ 31).drew ?_
 exact mK66
theorem rgk5 (w : World) (xc xs : Int) (p q : Nm) (xz xh xo : Int) (xt : ByteArray) (xi xn : Int) (mp : Option Addr) (ml mc : Nat) (hp : p.length ≤ 100000) (hh : RHead w ⟨xc, xs, 5, p, q, xz, xh, xo, xt, xi, xn, mp, ml, mc⟩ true true true) : Calls Tryz.prog 108 #[.agg (OpS.mk xc xs 5 p q xz xh xo xt xi xn mp ml mc).cells.toArray] w (BoolB w ((namesOf p).isSome)) := by
 have gp := fun W => rGood_any W p hp
 clear hp
 obtain ⟨g1, g2, g3, g4⟩ := hh
 try simp only [OpS.cells] at g1 g2 g3 g4
 simp only [OpS.cells]
 go_enter Tryz.func108, Tryz.ntmps108
 go_wp2_with fail
 refine region_kwalk (S := OpBx w ⟨xc, xs, 5, p, q, xz, xh, xo, xt, xi, xn, mp, ml, mc⟩) (by kernel_rfl) (by kernel_rfl) (by kernel_rfl) (OpBx.new w ⟨xc, xs, 5, p, q, xz, xh, xo, xt, xi, xn, mp, ml, mc⟩ 31).drew ?_
 exact mK66
theorem rgk8 (w : World) (xc xs : Int) (p q : Nm) (xz xh xo : Int) (xt : ByteArray) (xi xn : Int) (mp : Option Addr) (ml mc : Nat) (hp : p.length ≤ 100000) (hh : RHead w ⟨xc, xs, 8, p, q, xz, xh, xo, xt, xi, xn, mp, ml, mc⟩ true true true) : Calls Tryz.prog 108 #[.agg (OpS.mk xc xs 8 p q xz xh xo xt xi xn mp ml mc).cells.toArray] w (BoolB w ((namesOf p).isSome)) := by
 have gp := fun W => rGood_any W p hp
 clear hp
 obtain ⟨g1, g2, g3, g4⟩ := hh
 try simp only [OpS.cells] at g1 g2 g3 g4
 simp only [OpS.cells]
 go_enter Tryz.func108, Tryz.ntmps108
 go_wp2_with fail
 refine region_kwalk (S := OpBx w ⟨xc, xs, 8, p, q, xz, xh, xo, xt, xi, xn, mp, ml, mc⟩) (by kernel_rfl) (by kernel_rfl) (by kernel_rfl) (OpBx.new w ⟨xc, xs, 8, p, q, xz, xh, xo, xt, xi, xn, mp, ml, mc⟩ 31).drew ?_
 exact mK66
theorem rgk4 (w : World) (xc xs : Int) (p q : Nm) (xz xh xo : Int) (xt : ByteArray) (xi xn : Int) (mp : Option Addr) (ml mc : Nat) (hp : p.length ≤ 100000) (hq : q.length ≤ 100000) (hh : RHead w ⟨xc, xs, 4, p, q, xz, xh, xo, xt, xi, xn, mp, ml, mc⟩ true true true) : Calls Tryz.prog 108 #[.agg (OpS.mk xc xs 4 p q xz xh xo xt xi xn mp ml mc).cells.toArray] w (BoolB w ((namesOf p).isSome && (namesOf q).isSome)) := by
 have gp := fun W => rGood_any W p hp
 have gq := fun W => rGood_any W q hq
 clear hp hq
 generalize (namesOf p).isSome = r1 at gp ⊢
 generalize (namesOf q).isSome = r2 at gq ⊢
 obtain ⟨g1, g2, g3, g4⟩ := hh
 try simp only [OpS.cells] at g1 g2 g3 g4
 simp only [OpS.cells]
 go_enter Tryz.func108, Tryz.ntmps108
 go_wp2_with fail
 refine region_kwalk (S := OpBx w ⟨xc, xs, 4, p, q, xz, xh, xo, xt, xi, xn, mp, ml, mc⟩) (by kernel_rfl) (by kernel_rfl) (by kernel_rfl) (OpBx.new w ⟨xc, xs, 4, p, q, xz, xh, xo, xt, xi, xn, mp, ml, mc⟩ 31).drew ?_
 exact mK67
theorem rgk6 (w : World) (xc xs : Int) (p q : Nm) (xz xh xo : Int) (xt : ByteArray) (xi xn : Int) (mp : Option Addr) (ml mc : Nat) (hp : p.length ≤ 100000) (hq : q.length ≤ 100000) (hh : RHead w ⟨xc, xs, 6, p, q, xz, xh, xo, xt, xi, xn, mp, ml, mc⟩ true true true) : Calls Tryz.prog 108 #[.agg (OpS.mk xc xs 6 p q xz xh xo xt xi xn mp ml mc).cells.toArray] w (BoolB w ((namesOf p).isSome && (namesOf q).isSome)) := by
 have gp := fun W => rGood_any W p hp
 have gq := fun W => rGood_any W q hq
 clear hp hq
 generalize (namesOf p).isSome = r1 at gp ⊢
 generalize (namesOf q).isSome = r2 at gq ⊢
 obtain ⟨g1, g2, g3, g4⟩ := hh
 try simp only [OpS.cells] at g1 g2 g3 g4
 simp only [OpS.cells]
 go_enter Tryz.func108, Tryz.ntmps108
 go_wp2_with fail
 refine region_kwalk (S := OpBx w ⟨xc, xs, 6, p, q, xz, xh, xo, xt, xi, xn, mp, ml, mc⟩) (by kernel_rfl) (by kernel_rfl) (by kernel_rfl) (OpBx.new w ⟨xc, xs, 6, p, q, xz, xh, xo, xt, xi, xn, mp, ml, mc⟩ 31).drew ?_
 exact mK67
theorem rgk7 (w : World) (xc xs : Int) (p q : Nm) (xz xh xo : Int) (xt : ByteArray) (xi xn : Int) (mp : Option Addr) (ml mc : Nat) (hp : p.length ≤ 100000) (hh : RHead w ⟨xc, xs, 7, p, q, xz, xh, xo, xt, xi, xn, mp, ml, mc⟩ true true true) : Calls Tryz.prog 108 #[.agg (OpS.mk xc xs 7 p q xz xh xo xt xi xn mp ml mc).cells.toArray] w (BoolB w ((namesOf p).isSome && winB xz 0 8192)) := by
 have gp := fun W => rGood_any W p hp
 have k1 := fun W => rIn_any xz 0 8192 W
 clear hp
 generalize (namesOf p).isSome = r1 at gp ⊢
 generalize winB xz 0 8192 = r2 at k1 ⊢
 obtain ⟨g1, g2, g3, g4⟩ := hh
 try simp only [OpS.cells] at g1 g2 g3 g4
 simp only [OpS.cells]
 go_enter Tryz.func108, Tryz.ntmps108
 go_wp2_with fail
 refine region_kwalk (S := OpBx w ⟨xc, xs, 7, p, q, xz, xh, xo, xt, xi, xn, mp, ml, mc⟩) (by kernel_rfl) (by kernel_rfl) (by kernel_rfl) (OpBx.new w ⟨xc, xs, 7, p, q, xz, xh, xo, xt, xi, xn, mp, ml, mc⟩ 31).drew ?_
 repeat (first | refine kwO ?_ | refine kwU ?_ | refine kwC g1 ?_ | refine kwC g2 ?_ | refine kwC g3 ?_ | refine kwC g4 ?_)
 refine kw_nil (fun W hW => ?_)
 have HO := Lib.hid hW
 obtain ⟨c0, c1, c2, c3, c4, c5, c6, c7, c8, c9, c10, c11⟩ := hW.parts
 clear g1 g2 g3 g4 hW
 go_wp2_with fail
 refine (gp _).low (fun wg hg => ?_)
 have HO := Lib.hid (HO.out.below hg)
 obtain ⟨c0, c1, c2, c3, c4, c5, c6, c7, c8, c9, c10, c11⟩ := HO.out.parts
 clear hg
 cases r1
 · go_wp2_with fail
   go_ret
   exact ⟨rfl, HO.out.b⟩
 · go_wp2_with fail
   refine (k1 _).same ?_
   go_wp2_with fail
   go_ret
   exact ⟨rfl, HO.out.b⟩
theorem rgk9 (w : World) (xc xs : Int) (p q : Nm) (xz xh xo : Int) (xt : ByteArray) (xi xn : Int) (mp : Option Addr) (ml mc : Nat) (hh : RHead w ⟨xc, xs, 9, p, q, xz, xh, xo, xt, xi, xn, mp, ml, mc⟩ true true true) : Calls Tryz.prog 108 #[.agg (OpS.mk xc xs 9 p q xz xh xo xt xi xn mp ml mc).cells.toArray] w (BoolB w (winB xh 0 16383)) := by
 have k1 := fun W => rIn_any xh 0 16383 W
 obtain ⟨g1, g2, g3, g4⟩ := hh
 try simp only [OpS.cells] at g1 g2 g3 g4
 simp only [OpS.cells]
 go_enter Tryz.func108, Tryz.ntmps108
 go_wp2_with fail
 refine region_kwalk (S := OpBx w ⟨xc, xs, 9, p, q, xz, xh, xo, xt, xi, xn, mp, ml, mc⟩) (by kernel_rfl) (by kernel_rfl) (by kernel_rfl) (OpBx.new w ⟨xc, xs, 9, p, q, xz, xh, xo, xt, xi, xn, mp, ml, mc⟩ 31).drew ?_
 repeat (first | refine kwO ?_ | refine kwU ?_ | refine kwC g1 ?_ | refine kwC g2 ?_ | refine kwC g3 ?_ | refine kwC g4 ?_)
 refine kw_nil (fun W hW => ?_)
 have HO := Lib.hid hW
 obtain ⟨c0, c1, c2, c3, c4, c5, c6, c7, c8, c9, c10, c11⟩ := hW.parts
 clear g1 g2 g3 g4 hW
 go_wp2_with fail
 refine (k1 _).same ?_
 go_wp2_with fail
 go_ret
 exact ⟨rfl, HO.out.b⟩
theorem rgk10 (w : World) (xc xs : Int) (p q : Nm) (xz xh xo : Int) (xt : ByteArray) (xi xn : Int) (mp : Option Addr) (ml mc : Nat) (hh : RHead w ⟨xc, xs, 10, p, q, xz, xh, xo, xt, xi, xn, mp, ml, mc⟩ true true true) : Calls Tryz.prog 108 #[.agg (OpS.mk xc xs 10 p q xz xh xo xt xi xn mp ml mc).cells.toArray] w (BoolB w (winB xh 0 16383 && winB xo 0 8192 && winB xt.size 1 1024)) := by
 have k1 := fun W => rIn_any xh 0 16383 W
 have k2 := fun W => rIn_any xo 0 8192 W
 have k3 := fun W => rIn_any xt.size 1 1024 W
 generalize winB xh 0 16383 = r1 at k1 ⊢
 generalize winB xo 0 8192 = r2 at k2 ⊢
 generalize winB (xt.size : Int) 1 1024 = r3 at k3 ⊢
 obtain ⟨g1, g2, g3, g4⟩ := hh
 try simp only [OpS.cells] at g1 g2 g3 g4
 simp only [OpS.cells]
 go_enter Tryz.func108, Tryz.ntmps108
 go_wp2_with fail
 refine region_kwalk (S := OpBx w ⟨xc, xs, 10, p, q, xz, xh, xo, xt, xi, xn, mp, ml, mc⟩) (by kernel_rfl) (by kernel_rfl) (by kernel_rfl) (OpBx.new w ⟨xc, xs, 10, p, q, xz, xh, xo, xt, xi, xn, mp, ml, mc⟩ 31).drew ?_
 repeat (first | refine kwO ?_ | refine kwU ?_ | refine kwC g1 ?_ | refine kwC g2 ?_ | refine kwC g3 ?_ | refine kwC g4 ?_)
 refine kw_nil (fun W hW => ?_)
 have HO := Lib.hid hW
 obtain ⟨c0, c1, c2, c3, c4, c5, c6, c7, c8, c9, c10, c11⟩ := hW.parts
 clear g1 g2 g3 g4 hW
 go_wp2_with fail
 refine (k1 _).same ?_
 cases r1
 · go_wp2_with fail
   go_ret
   exact ⟨rfl, HO.out.b⟩
 go_wp2_with fail
 refine (k2 _).same ?_
 cases r2
 · go_wp2_with fail
   go_ret
   exact ⟨rfl, HO.out.b⟩
 go_wp2_with fail
 refine (k3 _).same ?_
 go_wp2_with fail
 go_ret
 exact ⟨rfl, HO.out.b⟩
theorem rgk11 (w : World) (xc xs : Int) (p q : Nm) (xz xh xo : Int) (xt : ByteArray) (xi xn : Int) (mp : Option Addr) (ml mc : Nat) (hh : RHead w ⟨xc, xs, 11, p, q, xz, xh, xo, xt, xi, xn, mp, ml, mc⟩ true true true) : Calls Tryz.prog 108 #[.agg (OpS.mk xc xs 11 p q xz xh xo xt xi xn mp ml mc).cells.toArray] w (BoolB w (winB xi 0 1099511627776)) := by
 obtain ⟨r, hr⟩ : ∃ r, r = winB xi 0 1099511627776 := ⟨_, rfl⟩
 rw [← hr]
 have hr2 := hr
 unfold winB at hr2
 by_cases h1 : 0 ≤ xi
 · by_cases h2 : xi ≤ 1099511627776
   · obtain rfl : r = true := by rw [hr2, decide_eq_true h1, decide_eq_true h2]; rfl
     clear hr hr2
     exact mK68
   · obtain rfl : r = false := by rw [hr2, decide_eq_false h2, Bool.and_false]
     have h2' : decide (xi ≤ 1099511627776) = false := decide_eq_false h2
     clear hr hr2 h2
     exact mK68
 · obtain rfl : r = false := by rw [hr2, decide_eq_false h1, Bool.false_and]
   have h1' : decide (0 ≤ xi) = false := decide_eq_false h1
   clear hr hr2 h1
   exact mK68
theorem rgk12 (w : World) (xc xs : Int) (p q : Nm) (xz xh xo : Int) (xt : ByteArray) (xi xn : Int) (mp : Option Addr) (ml mc : Nat) (hh : RHead w ⟨xc, xs, 12, p, q, xz, xh, xo, xt, xi, xn, mp, ml, mc⟩ true true true) : Calls Tryz.prog 108 #[.agg (OpS.mk xc xs 12 p q xz xh xo xt xi xn mp ml mc).cells.toArray] w (BoolB w (winB xi 0 1099511627776)) := by
 obtain ⟨r, hr⟩ : ∃ r, r = winB xi 0 1099511627776 := ⟨_, rfl⟩
 rw [← hr]
 have hr2 := hr
 unfold winB at hr2
 by_cases h1 : 0 ≤ xi
 · by_cases h2 : xi ≤ 1099511627776
   · obtain rfl : r = true := by rw [hr2, decide_eq_true h1, decide_eq_true h2]; rfl
     clear hr hr2
     exact mK69
   · obtain rfl : r = false := by rw [hr2, decide_eq_false h2, Bool.and_false]
     have h2' : decide (xi ≤ 1099511627776) = false := decide_eq_false h2
     clear hr hr2 h2
     exact mK69
 · obtain rfl : r = false := by rw [hr2, decide_eq_false h1, Bool.false_and]
   have h1' : decide (0 ≤ xi) = false := decide_eq_false h1
   clear hr hr2 h1
   exact mK69
theorem rgk14 (w : World) (xc xs : Int) (p q : Nm) (xz xh xo : Int) (xt : ByteArray) (xi xn : Int) (mp : Option Addr) (ml mc : Nat) (hh : RHead w ⟨xc, xs, 14, p, q, xz, xh, xo, xt, xi, xn, mp, ml, mc⟩ true true true) : Calls Tryz.prog 108 #[.agg (OpS.mk xc xs 14 p q xz xh xo xt xi xn mp ml mc).cells.toArray] w (BoolB w (winB xt.size 1 1024 && winB xz 1 65536 && winB xo 0 (xz - xt.size))) := by
 have hm := good_img xt.size xz xo
 have hm' := good_img' xt.size xz xo
 have hb : winB (xt.size : Int) 1 1024 = true → winB xo 0 xz = true → winB xz 1 65536 = true → xt.size ≤ 1024 ∧ 0 ≤ xo ∧ xo ≤ 65536 ∧ xz ≤ 65536 := fun h1 h2 h3 => by simp only [winB, Bool.and_eq_true, decide_eq_true_eq] at h1 h2 h3; omega
 have k1 := fun W => rIn_any xt.size 1 1024 W
 have k2 := fun W => rIn_any xz 1 65536 W
 have k3 := fun W => rIn_any xo 0 xz W
 generalize winB (xt.size : Int) 1 1024 = r1 at k1 hm hm' hb ⊢
 generalize winB xz 1 65536 = r2 at k2 hm hb ⊢
 generalize winB xo 0 xz = r3 at k3 hm hm' hb
 generalize winB xo 0 (xz - (xt.size : Int)) = r4 at hm hm' ⊢
 have HM := Lib.hid hm
 have HM' := Lib.hid hm'
 have HBN := Lib.hid hb
 clear hm hm' hb
 obtain ⟨g1, g2, g3, g4⟩ := hh
 try simp only [OpS.cells] at g1 g2 g3 g4
 simp only [OpS.cells]
 go_enter Tryz.func108, Tryz.ntmps108
 go_wp2_with fail
 refine region_kwalk (S := OpBx w ⟨xc, xs, 14, p, q, xz, xh, xo, xt, xi, xn, mp, ml, mc⟩) (by kernel_rfl) (by kernel_rfl) (by kernel_rfl) (OpBx.new w ⟨xc, xs, 14, p, q, xz, xh, xo, xt, xi, xn, mp, ml, mc⟩ 31).drew ?_
 repeat (first | refine kwO ?_ | refine kwU ?_ | refine kwC g1 ?_ | refine kwC g2 ?_ | refine kwC g3 ?_ | refine kwC g4 ?_)
 refine kw_nil (fun W hW => ?_)
 have HO := Lib.hid hW
 obtain ⟨c0, c1, c2, c3, c4, c5, c6, c7, c8, c9, c10, c11⟩ := hW.parts
 clear g1 g2 g3 g4 hW
 go_wp2_with fail
 refine (k1 _).same ?_
 cases r1
 · go_wp2_with fail
   go_ret
   exact ⟨rfl, HO.out.b⟩
 go_wp2_with fail
 refine (k2 _).same ?_
 cases r2
 · go_wp2_with fail
   go_ret
   exact ⟨rfl, HO.out.b⟩
 go_wp2_with fail
 refine (k3 _).same ?_
 cases r3
 · obtain rfl := HM'.out (by simp) (by simp)
   go_wp2_with fail
   go_ret
   exact ⟨rfl, HO.out.b⟩
 have hbn := HBN.out (by simp) (by simp) (by simp)
 have HRES := Lib.hid (HM.out (by simp) (by simp) (by simp))
 have hw1 : wrap64 (xo + (xt.size : Int)) = xo + xt.size := by unfold wrap64; omega
 clear hbn
 go_wp2_with fail
 go_ret
 exact ⟨(show Ending.returned (Value.bool (decide (xo + (xt.size : Int) ≤ xz))) = _ by rw [HRES.out]; rfl), HO.out.b⟩
theorem rgk13 (w : World) (xc xs : Int) (p q : Nm) (xz xh xo : Int) (xt : ByteArray) (xi xn : Int) (mp : Option Addr) (ml mc : Nat) {mv : List Mv} (hrow : RwAt w (fun _ => True) 4 ml mp (mv.flatMap mvC)) (hlen : ml = mv.length) (hh : RHead w ⟨xc, xs, 13, p, q, xz, xh, xo, xt, xi, xn, mp, ml, mc⟩ true true true) : Calls Tryz.prog 108 #[.agg (OpS.mk xc xs 13 p q xz xh xo xt xi xn mp ml mc).cells.toArray] w (BoolB w (winB xn 1 2147483647 && winB ml 1 16 && decide (xt.size ≤ 1024) && mv.all (goodMv xt.size))) := by
 have HROW := Lib.hid hrow
 subst hlen
 have hn16 : winB (mv.length : Int) 1 16 = true → mv.length ≤ 16 := fun h => by simp [winB] at h; omega
 have k1 := fun W => rIn_any xn 1 2147483647 W
 have k2 := fun W => rIn_any (mv.length : Int) 1 16 W
 generalize winB xn 1 2147483647 = r1 at k1 ⊢
 generalize winB (mv.length : Int) 1 16 = r2 at k2 hn16 ⊢
 have HH16 := Lib.hid hn16
 clear hrow hn16
 by_cases hz : xt.size ≤ 1024
 rotate_left 1
 · rw [decide_eq_false hz, Bool.and_false, Bool.false_and]
   have hz' : ¬ (xt.size : Int) ≤ 1024 := by omega
   have hz2 : 1024 < (xt.size : Int) := by omega
   clear hz
   obtain ⟨g1, g2, g3, g4⟩ := hh
   try simp only [OpS.cells] at g1 g2 g3 g4
   simp only [OpS.cells]
   go_enter Tryz.func108, Tryz.ntmps108
   go_wp2_with fail
   refine region_kwalk (S := OpBx w ⟨xc, xs, 13, p, q, xz, xh, xo, xt, xi, xn, mp, mv.length, mc⟩) (by kernel_rfl) (by kernel_rfl) (by kernel_rfl) (OpBx.new w ⟨xc, xs, 13, p, q, xz, xh, xo, xt, xi, xn, mp, mv.length, mc⟩ 31).drew ?_
   repeat (first | refine kwO ?_ | refine kwU ?_ | refine kwC g1 ?_ | refine kwC g2 ?_ | refine kwC g3 ?_ | refine kwC g4 ?_)
   refine kw_nil (fun W hW => ?_)
   have HO := Lib.hid hW
   obtain ⟨c0, c1, c2, c3, c4, c5, c6, c7, c8, c9, c10, c11⟩ := hW.parts
   clear g1 g2 g3 g4 hW
   go_wp2_with fail
   refine (k1 _).same ?_
   cases r1
   · go_wp2_with fail
     go_ret
     exact ⟨rfl, HO.out.b⟩
   go_wp2_with fail
   refine (k2 _).same ?_
   cases r2
   · go_wp2_with fail
     go_ret
     exact ⟨rfl, HO.out.b⟩
   go_wp2_with fail
   go_ret
   exact ⟨rfl, HO.out.b⟩
 rw [decide_eq_true hz, Bool.and_true]
 have HZ := Lib.hid hz
 have hz2 : ¬ 1024 < (xt.size : Int) := by omega
 clear hz
 obtain ⟨g1, g2, g3, g4⟩ := hh
 try simp only [OpS.cells] at g1 g2 g3 g4
 simp only [OpS.cells]
 go_enter Tryz.func108, Tryz.ntmps108
 go_wp2_with fail
 refine region_kwalk (S := OpBx w ⟨xc, xs, 13, p, q, xz, xh, xo, xt, xi, xn, mp, mv.length, mc⟩) (by kernel_rfl) (by kernel_rfl) (by kernel_rfl) (OpBx.new w ⟨xc, xs, 13, p, q, xz, xh, xo, xt, xi, xn, mp, mv.length, mc⟩ 31).drew ?_
 repeat (first | refine kwO ?_ | refine kwU ?_ | refine kwC g1 ?_ | refine kwC g2 ?_ | refine kwC g3 ?_ | refine kwC g4 ?_)
 refine kw_nil (fun W hW => ?_)
 have HO := Lib.hid hW
 obtain ⟨c0, c1, c2, c3, c4, c5, c6, c7, c8, c9, c10, c11⟩ := hW.parts
 clear g1 g2 g3 g4 hW
 go_wp2_with fail
 refine (k1 _).same ?_
 cases r1
 · go_wp2_with fail
   go_ret
   exact ⟨rfl, HO.out.b⟩
 go_wp2_with fail
 refine (k2 _).same ?_
 cases r2
 · go_wp2_with fail
   go_ret
   exact ⟨rfl, HO.out.b⟩
 have HN16 := Lib.hid (HH16.out rfl)
 go_wp2_with fail
 clear c0 c1 c2 c3 c4 c5 c6 c7 c8 c9 c10 c11
 go_loopg [3] mv.length (fun g v wr => GmRel w ⟨xc, xs, 13, p, q, xz, xh, xo, xt, xi, xn, mp, mv.length, mc⟩ mv xt.size mv.length g v wr)
 case atStart => exact ⟨0, rfl, Nat.zero_le _, rfl, HO.out, rfl⟩
 case round =>
  obtain ⟨i, hg, hi, rfl, hX, hall⟩ := hrel
  subst hg
  have HX := Lib.hid hX
  have HALL := Lib.hid hall
  obtain ⟨c0, c1, c2, c3, c4, c5, c6, c7, c8, c9, c10, c11⟩ := hX.parts
  have hol := hX.h
  clear hX hall
  by_cases hlt : i < mv.length
  · have hix : i < mv.length := hlt
    have HIX := Lib.hid hix
    obtain ⟨xb, xo', rfl, -, hxl, hxc⟩ := (HROW.out.below' HX.out.b).elem mvC_len default hix
    obtain ⟨m, hm⟩ : ∃ m, m = mv.getD i default := ⟨_, rfl⟩
    rw [← hm] at hxc
    have HM := Lib.hid hm
    clear hm hix
    obtain ⟨m0, m1, m2, m3⟩ := m
    have f0 : wr.cell? ⟨xb, xo' + i * 4, none⟩ = some (.int .i64 m0) := hxc 0 (by decide)
    have f1 : wr.cell? ⟨xb, xo' + i * 4 + 1, none⟩ = some (.int .i64 m1) := hxc 1 (by decide)
    have f2 : wr.cell? ⟨xb, xo' + i * 4 + 2, none⟩ = some (.int .i64 m2) := hxc 2 (by decide)
    have f3 : wr.cell? ⟨xb, xo' + i * 4 + 3, none⟩ = some (.int .i64 m3) := hxc 3 (by decide)
    have hil : (i : Int) < (mv.length : Int) := Int.ofNat_lt.2 hlt
    have hwi : wrap64 ((i : Int) + 1) = ((i + 1 : Nat) : Int) := by have := HN16.out; unfold wrap64; omega
    have HWI := Lib.hid hwi
    have hms : mv.length - (i + 1) < mv.length - i := Nat.sub_lt_sub_left hlt (Nat.lt_succ_self i)
    have hi1 : i + 1 ≤ mv.length := hlt
    clear hxc hwi hi
    have hgm := goodMv_doc xt.size m0 m1 m2 m3 HZ.out
    have k1 := rIn_any m0 0 16383
    have k2 := rIn_any m1 0 1024
    have k3 := rIn_any m2 1 1024
    have k4 := rIn_any m3 0 1024
    have hb3 : winB m2 1 1024 = true → 1 ≤ m2 ∧ m2 ≤ 1024 := fun h => by simpa [winB] using h
    have hb4 : winB m3 0 1024 = true → 0 ≤ m3 ∧ m3 ≤ 1024 := fun h => by simpa [winB] using h
    generalize winB m0 0 16383 = a1 at k1 hgm
    generalize winB m1 0 1024 = a2 at k2 hgm
    generalize winB m2 1 1024 = a3 at k3 hgm hb3
    generalize winB m3 0 1024 = a4 at k4 hgm hb4
    obtain ⟨W5, hW5⟩ : ∃ W5, W5 = wr.alloc (.cells #[.int .i64 m0, .int .i64 m1, .int .i64 m2, .int .i64 m3] 203) := ⟨_, rfl⟩
    have d0 : W5.cell? ⟨wr.heap.size, 0, none⟩ = some (.int .i64 m0) := by rw [hW5]; go_simp
    have d1 : W5.cell? ⟨wr.heap.size, 1, none⟩ = some (.int .i64 m1) := by rw [hW5]; go_simp
    have d2 : W5.cell? ⟨wr.heap.size, 2, none⟩ = some (.int .i64 m2) := by rw [hW5]; go_simp
    have d3 : W5.cell? ⟨wr.heap.size, 3, none⟩ = some (.int .i64 m3) := by rw [hW5]; go_simp
    have hX5 : OpBx w ⟨xc, xs, 13, p, q, xz, xh, xo, xt, xi, xn, (some ⟨xb, xo', none⟩), mv.length, mc⟩ W5 := HX.out.below (by rw [hW5]; exact belC (Below.refl _ _))
    have e8 := hX5.parts.2.2.2.2.2.2.2.2.1
    have HX5 := Lib.hid hX5
    have HB5 := Lib.hid hX5.b
    have HW5 := Lib.hid hW5
    clear hW5 hX5
    cases a1
    · have HGM := Lib.hid (hgm.trans rfl)
      clear k2 k3 k4 hb3 hb4 hgm
      go_wp2_with fail
      rw [← HW5.out]
      refine (k1 _).same ?_
      exact mK70
    cases a2
    · have HGM := Lib.hid (hgm.trans rfl)
      clear k3 k4 hb3 hb4 hgm
      go_wp2_with fail
      rw [← HW5.out]
      refine (k1 _).same ?_
      go_wp2_with fail
      refine (k2 _).same ?_
      exact mK70
    cases a3
    · have HGM := Lib.hid (hgm.trans rfl)
      clear k4 hb3 hb4 hgm
      go_wp2_with fail
      rw [← HW5.out]
      refine (k1 _).same ?_
      go_wp2_with fail
      refine (k2 _).same ?_
      go_wp2_with fail
      refine (k3 _).same ?_
      exact mK70
    cases a4
    · have HGM := Lib.hid (hgm.trans rfl)
      clear hb3 hb4 hgm
      exact mK71
    have hb3 := hb3 rfl
    have hb4 := hb4 rfl
    have hwm : wrap64 (m3 + m2) = m3 + m2 := by unfold wrap64; omega
    by_cases hle : m3 + m2 ≤ (xt.size : Int)
    rotate_left 1
    · have HGM := Lib.hid (hgm.trans (by rw [decide_eq_false hle]; try rfl))
      have hgt : (xt.size : Int) < m3 + m2 := by omega
      clear hgm hle hb3 hb4
      exact mK71
    have HGM := Lib.hid (hgm.trans (by rw [decide_eq_true hle]; try rfl))
    have hng : ¬ ((xt.size : Int) < m3 + m2) := by omega
    clear hgm hle hb3 hb4
    go_wp2_with fail
    rw [← HW5.out]
    refine (k1 _).same ?_
    go_wp2_with fail
    refine (k2 _).same ?_
    go_wp2_with fail
    refine (k3 _).same ?_
    go_wp2_with fail
    refine (k4 _).same ?_
    go_wp2_with fail
    go_roundg (mv.length - (i + 1))
    case measure => exact hms
    case rel => exact ⟨i + 1, rfl, hi1, by first | rfl | rw [HWI.out], HX5.out, mvAll_next HIX.out HALL.out (by rw [← HM.out]; exact HGM.out)⟩
  · obtain rfl : i = mv.length := Nat.le_antisymm hi (Nat.not_lt.1 hlt)
    have hge : ¬ (mv.length : Int) < mv.length := Int.lt_irrefl _
    have hall := HALL.out
    rw [List.take_length] at hall
    have HAL := Lib.hid hall
    clear hlt hi hall
    go_wp2_with fail
    go_ret
    exact ⟨(show Ending.returned (Value.bool true) = _ by rw [HAL.out]), HX.out.b⟩
theorem rgkU (w : World) (x : OpS) (hk : knownB x.kind = false) (hh : RHead w x true true true) : Calls Tryz.prog 108 #[.agg x.cells.toArray] w (BoolB w false) := by
 obtain ⟨xc, xs, xk, p, q, xz, xh, xo, xt, xi, xn, mp, ml, mc⟩ := x
 have hko : xk ≤ 0 ∨ 15 ≤ xk := by simp only [knownB] at hk; by_cases a : 0 < xk <;> by_cases b : xk < 15 <;> simp [a, b] at hk <;> omega
 have n1 : (xk == 1) = false := by simp only [beq_eq_false_iff_ne]; omega
 have n2 : (xk == 2) = false := by simp only [beq_eq_false_iff_ne]; omega
 have n3 : (xk == 3) = false := by simp only [beq_eq_false_iff_ne]; omega
 have n4 : (xk == 4) = false := by simp only [beq_eq_false_iff_ne]; omega
 have n5 : (xk == 5) = false := by simp only [beq_eq_false_iff_ne]; omega
 have n6 : (xk == 6) = false := by simp only [beq_eq_false_iff_ne]; omega
 have n7 : (xk == 7) = false := by simp only [beq_eq_false_iff_ne]; omega
 have n8 : (xk == 8) = false := by simp only [beq_eq_false_iff_ne]; omega
 have n9 : (xk == 9) = false := by simp only [beq_eq_false_iff_ne]; omega
 have n10 : (xk == 10) = false := by simp only [beq_eq_false_iff_ne]; omega
 have n11 : (xk == 11) = false := by simp only [beq_eq_false_iff_ne]; omega
 have n12 : (xk == 12) = false := by simp only [beq_eq_false_iff_ne]; omega
 have n13 : (xk == 13) = false := by simp only [beq_eq_false_iff_ne]; omega
 have n14 : (xk == 14) = false := by simp only [beq_eq_false_iff_ne]; omega
 clear hk hko
 obtain ⟨g1, g2, g3, g4⟩ := hh
 try simp only [OpS.cells] at g1 g2 g3 g4
 simp only [OpS.cells]
 go_enter Tryz.func108, Tryz.ntmps108
 go_wp2_with fail
 refine region_kwalk (S := OpBx w ⟨xc, xs, xk, p, q, xz, xh, xo, xt, xi, xn, mp, ml, mc⟩) (by kernel_rfl) (by kernel_rfl) (by kernel_rfl) (OpBx.new w ⟨xc, xs, xk, p, q, xz, xh, xo, xt, xi, xn, mp, ml, mc⟩ 31).drew ?_
 repeat (first | refine kwO ?_ | refine kwU ?_ | refine kwC g1 ?_ | refine kwC g2 ?_ | refine kwC g3 ?_ | refine kwC g4 ?_)
 refine kw_nil (fun W hW => ?_)
 have HO := Lib.hid hW
 obtain ⟨c0, c1, c2, c3, c4, c5, c6, c7, c8, c9, c10, c11⟩ := hW.parts
 clear g1 g2 g3 g4 hW
 go_wp2_with fail
 go_ret
 exact ⟨rfl, HO.out.b⟩
theorem rgood_all (w : World) (x : OpS) (mv : List Mv) (hR : RGd w x mv) : Calls Tryz.prog 108 #[.agg x.cells.toArray] w (BoolB w (x.good mv)) := by
 unfold OpS.good
 cases h1 : winB x.client 0 7
 · simpa using rgood_no w x _ _ _ (rhead hR h1 rfl rfl) rfl
 cases h2 : winB x.seq 1 2147483647
 · simpa using rgood_no w x _ _ _ (rhead hR h1 h2 rfl) rfl
 cases h3 : x.alike x.kept
 · simpa using rgood_no w x _ _ _ (rhead hR h1 h2 h3) rfl
 have hh := rhead hR h1 h2 h3
 cases hk : knownB x.kind
 · simpa using rgkU w x hk hh
 simp only [Bool.true_and, Bool.and_true]
 obtain ⟨xc, xs, xk, p, q, xz, xh, xo, xt, xi, xn, mp, ml, mc⟩ := x
 have hk2 : 0 < xk ∧ xk < 15 := by simpa [knownB] using hk
 clear hk
 obtain ⟨hin, -, hp, hq⟩ := hR
 have hrow := hin.row
 have hlen := hin.len
 simp only at hrow hlen hp hq
 obtain rfl | rfl | rfl | rfl | rfl | rfl | rfl | rfl | rfl | rfl | rfl | rfl | rfl | rfl : xk = 1 ∨ xk = 2 ∨ xk = 3 ∨ xk = 4 ∨ xk = 5 ∨ xk = 6 ∨ xk = 7 ∨ xk = 8 ∨ xk = 9 ∨ xk = 10 ∨ xk = 11 ∨ xk = 12 ∨ xk = 13 ∨ xk = 14 := by omega
 · exact rgk1 w xc xs p q xz xh xo xt xi xn mp ml mc hp hh
 · exact rgk2 w xc xs p q xz xh xo xt xi xn mp ml mc hp hh
 · exact rgk3 w xc xs p q xz xh xo xt xi xn mp ml mc hp hh
 · exact rgk4 w xc xs p q xz xh xo xt xi xn mp ml mc hp hq hh
 · exact rgk5 w xc xs p q xz xh xo xt xi xn mp ml mc hp hh
 · exact rgk6 w xc xs p q xz xh xo xt xi xn mp ml mc hp hq hh
 · exact rgk7 w xc xs p q xz xh xo xt xi xn mp ml mc hp hh
 · exact rgk8 w xc xs p q xz xh xo xt xi xn mp ml mc hp hh
 · exact rgk9 w xc xs p q xz xh xo xt xi xn mp ml mc  hh
 · exact rgk10 w xc xs p q xz xh xo xt xi xn mp ml mc  hh
 · exact rgk11 w xc xs p q xz xh xo xt xi xn mp ml mc  hh
 · exact rgk12 w xc xs p q xz xh xo xt xi xn mp ml mc  hh
 · subst hlen
   exact rgk13 w xc xs p q xz xh xo xt xi xn mp mv.length mc hrow rfl hh
 · exact rgk14 w xc xs p q xz xh xo xt xi xn mp ml mc  hh
end Go.Proofs.YtajbooppoohplaaGreatDoor
