/- the document's comparison of two states: ref25.sameNames, ref25.Same -/
import Derived.Test.YtpiogibkleaaaaaGreatDoorSsOwn2
import Derived.Test.YtpiogibkleaaaaaGreatDoorPkIs
import Derived.Test.YtpiogibkleaaaaaGreatDoorRKnown
namespace Go.Proofs.YtpiogibkleaaaaaGreatDoor
open Go.RowKit Esch

set_option linter.unusedSimpArgs false
set_option linter.unusedVariables false
theorem neqRE (u v : EqK) (w : World) : (binOp .neq 148 (.agg (enC u).toArray) (.agg (enC v).toArray)).run Tryz.prog w = .ok (.bool (!decide (u = v))) w := by
  obtain ⟨a, b, c⟩ := u
  obtain ⟨a', b', c'⟩ := v
  simp only [enC]
  have u3 := Tryz.underlying3
  have a3 := Tryz.isAgg3
  have z3 := Tryz.sizeOf3
  have u9 := Tryz.underlying9
  have a9 := Tryz.isAgg9
  have z9 := Tryz.sizeOf9
  have hS : Tryz.prog.underlying 148 = some (.struct (Tryz.prog.fieldsOf 148)) := by kernel_rfl
  have hp : Tryz.prog.stoodInHeld 148 = false := by kernel_rfl
  rw [run_neq_struct, show (10000 : Nat) = 9999 + 1 from rfl, run_equalIn_agg w 9999 148 _ _ hS hp]
  simp only [Program.fieldsOf, Tryz.underlying148]
  go_simp
  have hb : ((bs b).toList = (bs b').toList) ↔ b = b' := by rw [← beq_iff_eq (α := List UInt8), bs_eq_iff]; exact decide_eq_true_iff
  by_cases h0 : a = a' <;> by_cases h1 : b = b' <;> by_cases h2 : c = c' <;> simp [h0, h1, h2, hb]
/-- the cells by which the names are come to -/
def NmPath (w : World) (q a20 a18 : Nat) (v : Value) : Prop := w.cell? ⟨q, 1, none⟩ = some (.pointer (some ⟨a20, 0, none⟩)) ∧ w.cell? ⟨a20, 1, none⟩ = some (.pointer (some ⟨a18, 0, none⟩)) ∧ w.cell? ⟨a18, 0, none⟩ = some v
theorem NmPath.below {w w' : World} {q a20 a18 : Nat} {v : Value} (h : NmPath w q a20 a18 v) (hB : Below w.heap.size w w') : NmPath w' q a20 a18 v := ⟨below_at hB h.1 (cell_lt h.1), below_at hB h.2.1 (cell_lt h.2.1), below_at hB h.2.2 (cell_lt h.2.2)⟩
def SnRel (n : Nat) (x y : List EqK) (w : World) (g : Nat) (s5 : Value) (wr : World) : Prop := ∃ i : Nat, g = n - i ∧ i ≤ n ∧ s5 = .int .i64 i ∧ x.take i = y.take i ∧ Below w.heap.size w wr
set_option maxRecDepth 100000 in
set_option maxHeartbeats 8000000 in
theorem sameNames_any (w : World) (S T : Nat → Prop) (q1 a201 a181 q2 a202 a182 : Nat) (a b : Option Addr) (c d : Nat) (x y : List EqK) (p1 : NmPath w q1 a201 a181 (.slice a x.length c)) (p2 : NmPath w q2 a202 a182 (.slice b y.length d)) (hx : RwAt w S 3 x.length a (x.flatMap enC)) (hy : RwAt w T 3 y.length b (y.flatMap enC)) (h8 : x.length ≤ 100000) :
    Calls Tryz.prog 32 #[.pointer (some ⟨q1, 0, none⟩), .pointer (some ⟨q2, 0, none⟩)] w fun e w' => e = .returned (.bool (decide (x = y))) ∧ Below w.heap.size w w' := by
  obtain ⟨n, hn⟩ : ∃ n, n = x.length := ⟨_, rfl⟩
  obtain ⟨n2, hn2⟩ : ∃ n, n = y.length := ⟨_, rfl⟩
  obtain ⟨dv, hdv⟩ : ∃ dv, dv = decide (x = y) := ⟨_, rfl⟩
  rw [← hn] at p1 h8
  rw [← hn2] at p2
  rw [← hdv]
  have HX := Lib.hid hx
  have HY := Lib.hid hy
  have HP1 := Lib.hid p1
  have HP2 := Lib.hid p2
  obtain ⟨b0, b1, b2⟩ := p1
  obtain ⟨e0, e1, e2⟩ := p2
  have b0 := below_at (show Below w.heap.size w w.drew from (Below.refl _ _).drew) b0 (cell_lt b0)
  have b1 := below_at (show Below w.heap.size w w.drew from (Below.refl _ _).drew) b1 (cell_lt b1)
  have b2 := below_at (show Below w.heap.size w w.drew from (Below.refl _ _).drew) b2 (cell_lt b2)
  have e0 := below_at (show Below w.heap.size w w.drew from (Below.refl _ _).drew) e0 (cell_lt e0)
  have e1 := below_at (show Below w.heap.size w w.drew from (Below.refl _ _).drew) e1 (cell_lt e1)
  have e2 := below_at (show Below w.heap.size w w.drew from (Below.refl _ _).drew) e2 (cell_lt e2)
  by_cases hl : n = n2
  rotate_left 1
  · have hl2 : ((n : Int) != n2) = true := by simp only [bne_iff_ne, ne_eq]; omega
    obtain rfl : dv = false := by rw [hdv]; exact decide_eq_false (fun e => hl (by rw [hn, hn2, e]))
    clear hl hdv hn hn2 h8
    go_enter Tryz.func32, Tryz.ntmps32
    go_wp2_with fail
    refine wp_region_held_drew (S := fun W' => W'.cell? ⟨q1, 1, none⟩ = some (.pointer (some ⟨a201, 0, none⟩)) ∧ W'.cell? ⟨a201, 1, none⟩ = some (.pointer (some ⟨a181, 0, none⟩)) ∧ W'.cell? ⟨a181, 0, none⟩ = some (.slice a n c) ∧ W'.cell? ⟨q2, 1, none⟩ = some (.pointer (some ⟨a202, 0, none⟩)) ∧ W'.cell? ⟨a202, 1, none⟩ = some (.pointer (some ⟨a182, 0, none⟩)) ∧ W'.cell? ⟨a182, 0, none⟩ = some (.slice b n2 d)) (by kernel_rfl) ⟨b0, b1, b2, e0, e1, e2⟩ (fun hHeld => ?_)
    refine takeL 0 ?_
    refine takeL 1 ?_
    refine takeL 2 ?_
    refine takeL 3 ?_
    refine takeL 4 ?_
    refine takeL 5 ?_
    refine takeL 6 ?_
    refine takeL 7 ?_
    refine takeL 8 ?_
    refine takeL 9 ?_
    refine takeL 10 ?_
    refine takeL 11 ?_
    refine takeL 12 ?_
    refine takeL 13 ?_
    refine takeL 14 ?_
    refine takeL 15 ?_
    refine takeL 16 ?_
    refine takeL 17 ?_
    refine takeL 18 ?_
    refine takeL 19 ?_
    refine takeL 20 ?_
    refine takeL 21 ?_
    refine takeL 22 ?_
    refine wpAnyH_done (by kernel_rfl) ?_ _
    clear hHeld
    go_wp2_with fail
    go_ret
    exact ⟨rfl, (Below.refl _ _).drew⟩
  · have hl2 : ((n : Int) != n2) = false := by simp only [bne_eq_false_iff_eq]; omega
    have Hn := Lib.hid hn
    have HL := Lib.hid (show n = y.length by omega)
    have HDV := Lib.hid hdv
    subst hl
    clear hdv hn hn2
    go_enter Tryz.func32, Tryz.ntmps32
    go_wp2_with fail
    refine wp_region_held_drew (S := fun W' => W'.cell? ⟨q1, 1, none⟩ = some (.pointer (some ⟨a201, 0, none⟩)) ∧ W'.cell? ⟨a201, 1, none⟩ = some (.pointer (some ⟨a181, 0, none⟩)) ∧ W'.cell? ⟨a181, 0, none⟩ = some (.slice a n c) ∧ W'.cell? ⟨q2, 1, none⟩ = some (.pointer (some ⟨a202, 0, none⟩)) ∧ W'.cell? ⟨a202, 1, none⟩ = some (.pointer (some ⟨a182, 0, none⟩)) ∧ W'.cell? ⟨a182, 0, none⟩ = some (.slice b n d)) (by kernel_rfl) ⟨b0, b1, b2, e0, e1, e2⟩ (fun hHeld => ?_)
    refine takeL 0 ?_
    refine takeL 1 ?_
    refine takeL 2 ?_
    refine takeL 3 ?_
    refine takeL 4 ?_
    refine takeL 5 ?_
    refine takeL 6 ?_
    refine takeL 7 ?_
    refine takeL 8 ?_
    refine takeL 9 ?_
    refine takeL 10 ?_
    refine takeL 11 ?_
    refine takeL 12 ?_
    refine takeL 13 ?_
    refine takeL 14 ?_
    refine takeL 15 ?_
    refine takeL 16 ?_
    refine takeL 17 ?_
    refine takeL 18 ?_
    refine takeL 19 ?_
    refine takeL 20 ?_
    refine takeL 21 ?_
    refine takeL 22 ?_
    refine wpAnyH_done (by kernel_rfl) ?_ _
    clear hHeld b0 b1 b2 e0 e1 e2
    go_wp2_with fail
    go_loopg [5] n (fun g s5 wr => SnRel n x y w g s5 wr)
    case atStart => exact ⟨0, rfl, Nat.zero_le _, rfl, rfl, (Below.refl _ _).drew⟩
    case round =>
      obtain ⟨i, rfl, hi, rfl, hte, hB⟩ := hrel
      have HT := Lib.hid hte
      have HB := Lib.hid hB
      obtain ⟨b0, b1, b2⟩ := HP1.out.below hB
      obtain ⟨e0, e1, e2⟩ := HP2.out.below hB
      clear hte hB
      by_cases hlt : i < n
      · have hix : i < x.length := by have := Hn.out; omega
        have hiy : i < y.length := by have := HL.out; omega
        obtain ⟨xb, xo, hxa, -, hxl, hxc⟩ := HX.out.elem enC_len default hix
        obtain ⟨yb, yo, hya, -, hyl, hyc⟩ := HY.out.elem enC_len default hiy
        subst hxa
        subst hya
        have HTX := Lib.hid (take_one x default hix)
        have HTY := Lib.hid (take_one y default hiy)
        generalize x.getD i default = u at *
        generalize y.getD i default = v at *
        have hne := fun W => neqRE u v W
        obtain ⟨q, hq⟩ : ∃ q, q = decide (u = v) := ⟨_, rfl⟩
        rw [← hq] at hne
        have HQ := Lib.hid hq
        clear hq
        have hgd := fun op a b W => run_eqGuard_agg (P := Tryz.prog) W op 148 a b (enC u).toArray (enC v).toArray (by kernel_rfl)
        obtain ⟨u0, u1, u2⟩ := u
        obtain ⟨v0, v1, v2⟩ := v
        simp only [enC] at hne hgd
        have hBD := HB.out.drew
        have f0 : wr.drew.cell? ⟨xb, xo + i * 3, none⟩ = some (.int .i64 u0) := below_at hBD (hxc 0 (by decide)) hxl
        have f1 : wr.drew.cell? ⟨xb, xo + i * 3 + 1, none⟩ = some (.string (bs u1)) := below_at hBD (hxc 1 (by decide)) hxl
        have f2 : wr.drew.cell? ⟨xb, xo + i * 3 + 2, none⟩ = some (.int .i64 u2) := below_at hBD (hxc 2 (by decide)) hxl
        have g0 : wr.drew.cell? ⟨yb, yo + i * 3, none⟩ = some (.int .i64 v0) := below_at hBD (hyc 0 (by decide)) hyl
        have g1 : wr.drew.cell? ⟨yb, yo + i * 3 + 1, none⟩ = some (.string (bs v1)) := below_at hBD (hyc 1 (by decide)) hyl
        have g2 : wr.drew.cell? ⟨yb, yo + i * 3 + 2, none⟩ = some (.int .i64 v2) := below_at hBD (hyc 2 (by decide)) hyl
        have hil2 : (0 : Int) ≤ i ∧ (i : Int) < n := by omega
        have hi1 : i + 1 ≤ n := hlt
        have hms : n - (i + 1) < n - i := Nat.sub_lt_sub_left hlt (Nat.lt_succ_self i)
        have hwr1 := Lib.hid (show wrap64 ((i : Int) + 1) = ((i + 1 : Nat) : Int) by unfold wrap64; omega)
        clear hxc hyc hBD
        go_wp2_with fail
        refine wp_region_held_drew (S := fun W' => (W'.cell? ⟨q1, 1, none⟩ = some (.pointer (some ⟨a201, 0, none⟩)) ∧ W'.cell? ⟨a201, 1, none⟩ = some (.pointer (some ⟨a181, 0, none⟩)) ∧ W'.cell? ⟨a181, 0, none⟩ = some (.slice (some ⟨xb, xo, none⟩) n c) ∧ W'.cell? ⟨q2, 1, none⟩ = some (.pointer (some ⟨a202, 0, none⟩)) ∧ W'.cell? ⟨a202, 1, none⟩ = some (.pointer (some ⟨a182, 0, none⟩)) ∧ W'.cell? ⟨a182, 0, none⟩ = some (.slice (some ⟨yb, yo, none⟩) n d)) ∧
          W'.cell? ⟨xb, xo + i * 3, none⟩ = some (.int .i64 u0) ∧ W'.cell? ⟨xb, xo + i * 3 + 1, none⟩ = some (.string (bs u1)) ∧ W'.cell? ⟨xb, xo + i * 3 + 2, none⟩ = some (.int .i64 u2) ∧ W'.cell? ⟨yb, yo + i * 3, none⟩ = some (.int .i64 v0) ∧ W'.cell? ⟨yb, yo + i * 3 + 1, none⟩ = some (.string (bs v1)) ∧ W'.cell? ⟨yb, yo + i * 3 + 2, none⟩ = some (.int .i64 v2)) (by kernel_rfl) ⟨⟨b0, b1, b2, e0, e1, e2⟩, f0, f1, f2, g0, g1, g2⟩ (fun hHeld => ?_)
        refine takeL 0 ?_
        refine takeL 1 ?_
        refine takeL 2 ?_
        refine takeL 3 ?_
        refine takeL 4 ?_
        refine takeL 5 ?_
        refine takeL 6 ?_
        refine takeL 7 ?_
        refine takeL 8 ?_
        refine takeL 9 ?_
        refine takeL 10 ?_
        refine takeL 11 ?_
        refine takeL 12 ?_
        refine takeL 13 ?_
        refine takeL 14 ?_
        refine takeL 15 ?_
        refine takeL 16 ?_
        refine takeL 17 ?_
        refine takeL 18 ?_
        refine takeL 19 ?_
        refine takeL 20 ?_
        refine takeL 21 ?_
        refine takeL 22 ?_
        refine takeL 23 ?_
        refine takeL 24 ?_
        refine takeL 25 ?_
        refine takeL 26 ?_
        refine wpAnyH_done (by kernel_rfl) ?_ _
        clear hHeld
        cases q
        · have hdv : dv = false := by
            rw [HDV.out]
            refine decide_eq_false (fun e => ?_)
            subst e
            have h1 := HTX.out
            rw [HTY.out] at h1
            have h2 := HQ.out
            simp only [List.append_cancel_left_eq, List.cons.injEq, and_true] at h1
            rw [h1] at h2
            simp at h2
          subst hdv
          go_wp2_with fail
          go_ret
          exact ⟨rfl, HB.out.drew⟩
        · go_wp2_with fail
          go_roundg (n - (i + 1))
          case measure => exact hms
          case rel => exact ⟨i + 1, rfl, hi1, by first | rfl | rw [hwr1.out], by rw [HTX.out, HTY.out, HT.out, of_decide_eq_true HQ.out.symm], HB.out.drew⟩
      · obtain rfl : i = n := by omega
        have hxy : x = y := by
          have h1 := HT.out
          rw [List.take_of_length_le (by have := Hn.out; omega), List.take_of_length_le (by have := Hn.out; have := HL.out; omega)] at h1
          exact h1
        have hdv : dv = true := by rw [HDV.out]; exact decide_eq_true hxy
        subst hdv
        clear hlt
        go_wp2_with fail
        go_ret
        exact ⟨rfl, HB.out⟩
/-- the cells that the comparison reads -/
structure SSm (W : World) (q1 a201 a251 a271 a131 a181 : Nat) (oa1 : Option Addr) (oc1 kl1 : Nat) (ra1 : Option Addr) (rc1 nl1 : Nat) (ta1 : Option Addr) (tc1 hl1 : Nat) (q2 a202 a252 a272 a132 a182 : Nat) (oa2 : Option Addr) (oc2 kl2 : Nat) (ra2 : Option Addr) (rc2 nl2 : Nat) (ta2 : Option Addr) (tc2 hl2 : Nat) (xn xm yn ym : Int) (xl xs xr yl ys yr : Nat → Int) : Prop where
  c0 : W.cell? ⟨q1, 0, none⟩ = some (.int .i64 xn)
  c1 : W.cell? ⟨q1, 1, none⟩ = some (.pointer (some ⟨a201, 0, none⟩))
  c2 : W.cell? ⟨q1, 2, none⟩ = some (.pointer (some ⟨a251, 0, none⟩))
  c3 : W.cell? ⟨q1, 3, none⟩ = some (.pointer (some ⟨a271, 0, none⟩))
  c4 : W.cell? ⟨a201, 0, none⟩ = some (.pointer (some ⟨a131, 0, none⟩))
  c5 : W.cell? ⟨a201, 1, none⟩ = some (.pointer (some ⟨a181, 0, none⟩))
  c6 : W.cell? ⟨a131, 0, none⟩ = some (.slice oa1 kl1 oc1)
  c7 : W.cell? ⟨a131, 1, none⟩ = some (.int .i64 xm)
  c8 : W.cell? ⟨a181, 0, none⟩ = some (.slice ra1 nl1 rc1)
  c9 : W.cell? ⟨a251, 0, none⟩ = some (.slice ta1 hl1 tc1)
  c10 : W.cell? ⟨a251, 1, none⟩ = some (.int .i64 (xl 0))
  c11 : W.cell? ⟨a251, 2, none⟩ = some (.int .i64 (xl 1))
  c12 : W.cell? ⟨a251, 3, none⟩ = some (.int .i64 (xl 2))
  c13 : W.cell? ⟨a251, 4, none⟩ = some (.int .i64 (xl 3))
  c14 : W.cell? ⟨a251, 5, none⟩ = some (.int .i64 (xl 4))
  c15 : W.cell? ⟨a251, 6, none⟩ = some (.int .i64 (xl 5))
  c16 : W.cell? ⟨a251, 7, none⟩ = some (.int .i64 (xl 6))
  c17 : W.cell? ⟨a251, 8, none⟩ = some (.int .i64 (xl 7))
  c18 : W.cell? ⟨a271, 0, none⟩ = some (.int .i64 (xs 0))
  c19 : W.cell? ⟨a271, 1, none⟩ = some (.int .i64 (xs 1))
  c20 : W.cell? ⟨a271, 2, none⟩ = some (.int .i64 (xs 2))
  c21 : W.cell? ⟨a271, 3, none⟩ = some (.int .i64 (xs 3))
  c22 : W.cell? ⟨a271, 4, none⟩ = some (.int .i64 (xs 4))
  c23 : W.cell? ⟨a271, 5, none⟩ = some (.int .i64 (xs 5))
  c24 : W.cell? ⟨a271, 6, none⟩ = some (.int .i64 (xs 6))
  c25 : W.cell? ⟨a271, 7, none⟩ = some (.int .i64 (xs 7))
  c26 : W.cell? ⟨a271, 8, none⟩ = some (.int .i64 (xr 0))
  c27 : W.cell? ⟨a271, 9, none⟩ = some (.int .i64 (xr 1))
  c28 : W.cell? ⟨a271, 10, none⟩ = some (.int .i64 (xr 2))
  c29 : W.cell? ⟨a271, 11, none⟩ = some (.int .i64 (xr 3))
  c30 : W.cell? ⟨a271, 12, none⟩ = some (.int .i64 (xr 4))
  c31 : W.cell? ⟨a271, 13, none⟩ = some (.int .i64 (xr 5))
  c32 : W.cell? ⟨a271, 14, none⟩ = some (.int .i64 (xr 6))
  c33 : W.cell? ⟨a271, 15, none⟩ = some (.int .i64 (xr 7))
  c34 : W.cell? ⟨a271, 16, none⟩ = some (.int .i64 (xr 8))
  c35 : W.cell? ⟨a271, 17, none⟩ = some (.int .i64 (xr 9))
  c36 : W.cell? ⟨a271, 18, none⟩ = some (.int .i64 (xr 10))
  c37 : W.cell? ⟨a271, 19, none⟩ = some (.int .i64 (xr 11))
  c38 : W.cell? ⟨a271, 20, none⟩ = some (.int .i64 (xr 12))
  c39 : W.cell? ⟨a271, 21, none⟩ = some (.int .i64 (xr 13))
  c40 : W.cell? ⟨a271, 22, none⟩ = some (.int .i64 (xr 14))
  c41 : W.cell? ⟨a271, 23, none⟩ = some (.int .i64 (xr 15))
  d0 : W.cell? ⟨q2, 0, none⟩ = some (.int .i64 yn)
  d1 : W.cell? ⟨q2, 1, none⟩ = some (.pointer (some ⟨a202, 0, none⟩))
  d2 : W.cell? ⟨q2, 2, none⟩ = some (.pointer (some ⟨a252, 0, none⟩))
  d3 : W.cell? ⟨q2, 3, none⟩ = some (.pointer (some ⟨a272, 0, none⟩))
  d4 : W.cell? ⟨a202, 0, none⟩ = some (.pointer (some ⟨a132, 0, none⟩))
  d5 : W.cell? ⟨a202, 1, none⟩ = some (.pointer (some ⟨a182, 0, none⟩))
  d6 : W.cell? ⟨a132, 0, none⟩ = some (.slice oa2 kl2 oc2)
  d7 : W.cell? ⟨a132, 1, none⟩ = some (.int .i64 ym)
  d8 : W.cell? ⟨a182, 0, none⟩ = some (.slice ra2 nl2 rc2)
  d9 : W.cell? ⟨a252, 0, none⟩ = some (.slice ta2 hl2 tc2)
  d10 : W.cell? ⟨a252, 1, none⟩ = some (.int .i64 (yl 0))
  d11 : W.cell? ⟨a252, 2, none⟩ = some (.int .i64 (yl 1))
  d12 : W.cell? ⟨a252, 3, none⟩ = some (.int .i64 (yl 2))
  d13 : W.cell? ⟨a252, 4, none⟩ = some (.int .i64 (yl 3))
  d14 : W.cell? ⟨a252, 5, none⟩ = some (.int .i64 (yl 4))
  d15 : W.cell? ⟨a252, 6, none⟩ = some (.int .i64 (yl 5))
  d16 : W.cell? ⟨a252, 7, none⟩ = some (.int .i64 (yl 6))
  d17 : W.cell? ⟨a252, 8, none⟩ = some (.int .i64 (yl 7))
  d18 : W.cell? ⟨a272, 0, none⟩ = some (.int .i64 (ys 0))
  d19 : W.cell? ⟨a272, 1, none⟩ = some (.int .i64 (ys 1))
  d20 : W.cell? ⟨a272, 2, none⟩ = some (.int .i64 (ys 2))
  d21 : W.cell? ⟨a272, 3, none⟩ = some (.int .i64 (ys 3))
  d22 : W.cell? ⟨a272, 4, none⟩ = some (.int .i64 (ys 4))
  d23 : W.cell? ⟨a272, 5, none⟩ = some (.int .i64 (ys 5))
  d24 : W.cell? ⟨a272, 6, none⟩ = some (.int .i64 (ys 6))
  d25 : W.cell? ⟨a272, 7, none⟩ = some (.int .i64 (ys 7))
  d26 : W.cell? ⟨a272, 8, none⟩ = some (.int .i64 (yr 0))
  d27 : W.cell? ⟨a272, 9, none⟩ = some (.int .i64 (yr 1))
  d28 : W.cell? ⟨a272, 10, none⟩ = some (.int .i64 (yr 2))
  d29 : W.cell? ⟨a272, 11, none⟩ = some (.int .i64 (yr 3))
  d30 : W.cell? ⟨a272, 12, none⟩ = some (.int .i64 (yr 4))
  d31 : W.cell? ⟨a272, 13, none⟩ = some (.int .i64 (yr 5))
  d32 : W.cell? ⟨a272, 14, none⟩ = some (.int .i64 (yr 6))
  d33 : W.cell? ⟨a272, 15, none⟩ = some (.int .i64 (yr 7))
  d34 : W.cell? ⟨a272, 16, none⟩ = some (.int .i64 (yr 8))
  d35 : W.cell? ⟨a272, 17, none⟩ = some (.int .i64 (yr 9))
  d36 : W.cell? ⟨a272, 18, none⟩ = some (.int .i64 (yr 10))
  d37 : W.cell? ⟨a272, 19, none⟩ = some (.int .i64 (yr 11))
  d38 : W.cell? ⟨a272, 20, none⟩ = some (.int .i64 (yr 12))
  d39 : W.cell? ⟨a272, 21, none⟩ = some (.int .i64 (yr 13))
  d40 : W.cell? ⟨a272, 22, none⟩ = some (.int .i64 (yr 14))
  d41 : W.cell? ⟨a272, 23, none⟩ = some (.int .i64 (yr 15))
theorem SSm.below {W W2 : World} {q1 a201 a251 a271 a131 a181 : Nat} {oa1 : Option Addr} {oc1 kl1 : Nat} {ra1 : Option Addr} {rc1 nl1 : Nat} {ta1 : Option Addr} {tc1 hl1 : Nat} {q2 a202 a252 a272 a132 a182 : Nat} {oa2 : Option Addr} {oc2 kl2 : Nat} {ra2 : Option Addr} {rc2 nl2 : Nat} {ta2 : Option Addr} {tc2 hl2 : Nat} {xn xm yn ym : Int} {xl xs xr yl ys yr : Nat → Int} (h : SSm W q1 a201 a251 a271 a131 a181 oa1 oc1 kl1 ra1 rc1 nl1 ta1 tc1 hl1 q2 a202 a252 a272 a132 a182 oa2 oc2 kl2 ra2 rc2 nl2 ta2 tc2 hl2 xn xm yn ym xl xs xr yl ys yr) (hB : Below W.heap.size W W2) : SSm W2 q1 a201 a251 a271 a131 a181 oa1 oc1 kl1 ra1 rc1 nl1 ta1 tc1 hl1 q2 a202 a252 a272 a132 a182 oa2 oc2 kl2 ra2 rc2 nl2 ta2 tc2 hl2 xn xm yn ym xl xs xr yl ys yr := ⟨below_at hB h.c0 (cell_lt h.c0), below_at hB h.c1 (cell_lt h.c1), below_at hB h.c2 (cell_lt h.c2), below_at hB h.c3 (cell_lt h.c3), below_at hB h.c4 (cell_lt h.c4), below_at hB h.c5 (cell_lt h.c5), below_at hB h.c6 (cell_lt h.c6), below_at hB h.c7 (cell_lt h.c7), below_at hB h.c8 (cell_lt h.c8), below_at hB h.c9 (cell_lt h.c9), below_at hB h.c10 (cell_lt h.c10), below_at hB h.c11 (cell_lt h.c11), below_at hB h.c12 (cell_lt h.c12), below_at hB h.c13 (cell_lt h.c13), below_at hB h.c14 (cell_lt h.c14), below_at hB h.c15 (cell_lt h.c15), below_at hB h.c16 (cell_lt h.c16), below_at hB h.c17 (cell_lt h.c17), below_at hB h.c18 (cell_lt h.c18), below_at hB h.c19 (cell_lt h.c19), below_at hB h.c20 (cell_lt h.c20), below_at hB h.c21 (cell_lt h.c21), below_at hB h.c22 (cell_lt h.c22), below_at hB h.c23 (cell_lt h.c23), below_at hB h.c24 (cell_lt h.c24), below_at hB h.c25 (cell_lt h.c25), below_at hB h.c26 (cell_lt h.c26), below_at hB h.c27 (cell_lt h.c27), below_at hB h.c28 (cell_lt h.c28), below_at hB h.c29 (cell_lt h.c29), below_at hB h.c30 (cell_lt h.c30), below_at hB h.c31 (cell_lt h.c31), below_at hB h.c32 (cell_lt h.c32), below_at hB h.c33 (cell_lt h.c33), below_at hB h.c34 (cell_lt h.c34), below_at hB h.c35 (cell_lt h.c35), below_at hB h.c36 (cell_lt h.c36), below_at hB h.c37 (cell_lt h.c37), below_at hB h.c38 (cell_lt h.c38), below_at hB h.c39 (cell_lt h.c39), below_at hB h.c40 (cell_lt h.c40), below_at hB h.c41 (cell_lt h.c41), below_at hB h.d0 (cell_lt h.d0), below_at hB h.d1 (cell_lt h.d1), below_at hB h.d2 (cell_lt h.d2), below_at hB h.d3 (cell_lt h.d3), below_at hB h.d4 (cell_lt h.d4), below_at hB h.d5 (cell_lt h.d5), below_at hB h.d6 (cell_lt h.d6), below_at hB h.d7 (cell_lt h.d7), below_at hB h.d8 (cell_lt h.d8), below_at hB h.d9 (cell_lt h.d9), below_at hB h.d10 (cell_lt h.d10), below_at hB h.d11 (cell_lt h.d11), below_at hB h.d12 (cell_lt h.d12), below_at hB h.d13 (cell_lt h.d13), below_at hB h.d14 (cell_lt h.d14), below_at hB h.d15 (cell_lt h.d15), below_at hB h.d16 (cell_lt h.d16), below_at hB h.d17 (cell_lt h.d17), below_at hB h.d18 (cell_lt h.d18), below_at hB h.d19 (cell_lt h.d19), below_at hB h.d20 (cell_lt h.d20), below_at hB h.d21 (cell_lt h.d21), below_at hB h.d22 (cell_lt h.d22), below_at hB h.d23 (cell_lt h.d23), below_at hB h.d24 (cell_lt h.d24), below_at hB h.d25 (cell_lt h.d25), below_at hB h.d26 (cell_lt h.d26), below_at hB h.d27 (cell_lt h.d27), below_at hB h.d28 (cell_lt h.d28), below_at hB h.d29 (cell_lt h.d29), below_at hB h.d30 (cell_lt h.d30), below_at hB h.d31 (cell_lt h.d31), below_at hB h.d32 (cell_lt h.d32), below_at hB h.d33 (cell_lt h.d33), below_at hB h.d34 (cell_lt h.d34), below_at hB h.d35 (cell_lt h.d35), below_at hB h.d36 (cell_lt h.d36), below_at hB h.d37 (cell_lt h.d37), below_at hB h.d38 (cell_lt h.d38), below_at hB h.d39 (cell_lt h.d39), below_at hB h.d40 (cell_lt h.d40), below_at hB h.d41 (cell_lt h.d41)⟩
set_option maxRecDepth 100000 in
set_option maxHeartbeats 64000000 in
theorem rSame25_any (w : World) (B1 B2 : Nat) (x y : DmC) (q1 a201 a251 a271 a131 a181 : Nat) (oa1 : Option Addr) (oc1 : Nat) (ok1 : List InC) (ra1 : Option Addr) (rc1 : Nat) (ta1 : Option Addr) (tc1 : Nat) (q2 a202 a252 a272 a132 a182 : Nat) (oa2 : Option Addr) (oc2 : Nat) (ok2 : List InC) (ra2 : Option Addr) (rc2 : Nat) (ta2 : Option Addr) (tc2 : Nat) (hx : RStIn w B1 q1 a201 a251 a271 a131 a181 oa1 oc1 ok1 ra1 rc1 ta1 tc1 x) (hy : RStIn w B2 q2 a202 a252 a272 a132 a182 oa2 oc2 ok2 ra2 rc2 ta2 tc2 y) (h1 : x.ik.length ≤ 100000) (h2 : x.nl.length ≤ 100000) (h3 : x.hl.length ≤ 100000) :
    Calls Tryz.prog 8 #[.pointer (some ⟨q1, 0, none⟩), .pointer (some ⟨q2, 0, none⟩)] w (InEqPost w (x.same y)) := by
  obtain ⟨xn, xia, xic, xik, xm, xna, xnc, xnl, xha, xhc, xhl, xl, xs, xr⟩ := x
  obtain ⟨yn, yia, yic, yik, ym, yna, ync, ynl, yha, yhc, yhl, yl, ys, yr⟩ := y
  simp only at h1 h2 h3
  have hl1 : ok1.length ≤ 100000 := by have := congrArg List.length hx.fAv; simp only [List.length_map] at this; omega
  have HI : Hid (∀ W, Below w.heap.size w W → Calls Tryz.prog 31 #[.slice oa1 ok1.length oc1, .slice oa2 ok2.length oc2] W fun e w' => e = .returned (.bool (decide (xik.map InC.val = yik.map InC.val))) ∧ Below W.heap.size W w') := Lib.hid (fun W hB => by
    have h := rInoSame_any W _ _ oa1 oa2 oc1 oc2 ok1 ok2 (hx.fA.below' hB) (hy.fA.below' hB) hl1
    rw [hx.fAv, hy.fAv] at h
    exact h)
  have HN : Hid (∀ W, Below w.heap.size w W → Calls Tryz.prog 32 #[.pointer (some ⟨q1, 0, none⟩), .pointer (some ⟨q2, 0, none⟩)] W fun e w' => e = .returned (.bool (decide (xnl = ynl))) ∧ Below W.heap.size W w') := Lib.hid (fun W hB => sameNames_any W _ _ q1 a201 a181 q2 a202 a182 ra1 ra2 rc1 rc2 xnl ynl (NmPath.below ⟨hx.fq.at' 1 (by decide), hx.f20.at' 1 (by decide), hx.f18.at' 0 (by decide)⟩ hB) (NmPath.below ⟨hy.fq.at' 1 (by decide), hy.f20.at' 1 (by decide), hy.f18.at' 0 (by decide)⟩ hB) (hx.fB.below' hB) (hy.fB.below' hB) h2)
  have HH : Hid (∀ W, Below w.heap.size w W → Calls Tryz.prog 33 #[.slice ta1 xhl.length tc1, .slice ta2 yhl.length tc2] W fun e w' => e = .returned (.bool (decide (xhl = yhl))) ∧ Below W.heap.size W w') := Lib.hid (fun W hB => rHdSame_any W _ _ ta1 ta2 tc1 tc2 xhl yhl (hx.fC.below' hB) (hy.fC.below' hB) h3)
  unfold DmC.same
  simp only
  obtain ⟨qi, hqi⟩ : ∃ q, q = decide (xik.map InC.val = yik.map InC.val) := ⟨_, rfl⟩
  obtain ⟨qn, hqn⟩ : ∃ q, q = decide (xnl = ynl) := ⟨_, rfl⟩
  obtain ⟨qh, hqh⟩ : ∃ q, q = decide (xhl = yhl) := ⟨_, rfl⟩
  obtain ⟨ql, hql⟩ : ∃ q, q = decide (first 8 xl = first 8 yl) := ⟨_, rfl⟩
  obtain ⟨qs, hqs⟩ : ∃ q, q = decide (first 8 xs = first 8 ys) := ⟨_, rfl⟩
  obtain ⟨qr, hqr⟩ : ∃ q, q = decide (first 16 xr = first 16 yr) := ⟨_, rfl⟩
  have hel := eqA64 xl yl
  have hes := eqAI xs ys
  have her := eqAR xr yr
  have hgl := fun op a b => gdeqA64 op a b xl yl
  have hgs := fun op a b => gdeqAI op a b xs ys
  have hgr := fun op a b => gdeqAR op a b xr yr
  rw [← hqi] at HI
  rw [← hqn] at HN
  rw [← hqh] at HH
  rw [← hql] at hel
  rw [← hqs] at hes
  rw [← hqr] at her
  rw [← hqi, ← hqn, ← hqh, ← hql, ← hqs, ← hqr]
  clear hqi hqn hqh hql hqs hqr
  obtain ⟨res, hres⟩ : ∃ res, res = (qi && (decide (xn = yn) && (decide (xm = ym) && (qn && (qh && (ql && (qs && qr))))))) := ⟨_, rfl⟩
  rw [← hres]
  have HRES := Lib.hid hres
  have hss : SSm w q1 a201 a251 a271 a131 a181 oa1 oc1 (ok1.length) ra1 rc1 (xnl.length) ta1 tc1 (xhl.length) q2 a202 a252 a272 a132 a182 oa2 oc2 (ok2.length) ra2 rc2 (ynl.length) ta2 tc2 (yhl.length) xn xm yn ym xl xs xr yl ys yr := ⟨hx.fq.at' 0 (by decide), hx.fq.at' 1 (by decide), hx.fq.at' 2 (by decide), hx.fq.at' 3 (by decide), hx.f20.at' 0 (by decide), hx.f20.at' 1 (by decide), hx.f13.at' 0 (by decide), hx.f13.at' 1 (by decide), hx.f18.at' 0 (by decide), hx.f25.at' 0 (by decide), hx.f25.at' 1 (by decide), hx.f25.at' 2 (by decide), hx.f25.at' 3 (by decide), hx.f25.at' 4 (by decide), hx.f25.at' 5 (by decide), hx.f25.at' 6 (by decide), hx.f25.at' 7 (by decide), hx.f25.at' 8 (by decide), hx.f27.at' 0 (by decide), hx.f27.at' 1 (by decide), hx.f27.at' 2 (by decide), hx.f27.at' 3 (by decide), hx.f27.at' 4 (by decide), hx.f27.at' 5 (by decide), hx.f27.at' 6 (by decide), hx.f27.at' 7 (by decide), hx.f27.at' 8 (by decide), hx.f27.at' 9 (by decide), hx.f27.at' 10 (by decide), hx.f27.at' 11 (by decide), hx.f27.at' 12 (by decide), hx.f27.at' 13 (by decide), hx.f27.at' 14 (by decide), hx.f27.at' 15 (by decide), hx.f27.at' 16 (by decide), hx.f27.at' 17 (by decide), hx.f27.at' 18 (by decide), hx.f27.at' 19 (by decide), hx.f27.at' 20 (by decide), hx.f27.at' 21 (by decide), hx.f27.at' 22 (by decide), hx.f27.at' 23 (by decide), hy.fq.at' 0 (by decide), hy.fq.at' 1 (by decide), hy.fq.at' 2 (by decide), hy.fq.at' 3 (by decide), hy.f20.at' 0 (by decide), hy.f20.at' 1 (by decide), hy.f13.at' 0 (by decide), hy.f13.at' 1 (by decide), hy.f18.at' 0 (by decide), hy.f25.at' 0 (by decide), hy.f25.at' 1 (by decide), hy.f25.at' 2 (by decide), hy.f25.at' 3 (by decide), hy.f25.at' 4 (by decide), hy.f25.at' 5 (by decide), hy.f25.at' 6 (by decide), hy.f25.at' 7 (by decide), hy.f25.at' 8 (by decide), hy.f27.at' 0 (by decide), hy.f27.at' 1 (by decide), hy.f27.at' 2 (by decide), hy.f27.at' 3 (by decide), hy.f27.at' 4 (by decide), hy.f27.at' 5 (by decide), hy.f27.at' 6 (by decide), hy.f27.at' 7 (by decide), hy.f27.at' 8 (by decide), hy.f27.at' 9 (by decide), hy.f27.at' 10 (by decide), hy.f27.at' 11 (by decide), hy.f27.at' 12 (by decide), hy.f27.at' 13 (by decide), hy.f27.at' 14 (by decide), hy.f27.at' 15 (by decide), hy.f27.at' 16 (by decide), hy.f27.at' 17 (by decide), hy.f27.at' 18 (by decide), hy.f27.at' 19 (by decide), hy.f27.at' 20 (by decide), hy.f27.at' 21 (by decide), hy.f27.at' 22 (by decide), hy.f27.at' 23 (by decide)⟩
  have HZ : Hid (∀ W, Below w.heap.size w W → SSm W q1 a201 a251 a271 a131 a181 oa1 oc1 (ok1.length) ra1 rc1 (xnl.length) ta1 tc1 (xhl.length) q2 a202 a252 a272 a132 a182 oa2 oc2 (ok2.length) ra2 rc2 (ynl.length) ta2 tc2 (yhl.length) xn xm yn ym xl xs xr yl ys yr) := Lib.hid (fun W hB => hss.below hB)
  have hBd : Below w.heap.size w w.drew := (Below.refl _ _).drew
  have HS0 := Lib.hid (And.intro (HZ.out _ hBd) hBd)
  clear hx hy hss hBd hres hl1 h1 h2 h3
  go_enter Tryz.func8, Tryz.ntmps8
  go_wp2_with fail
  simp only [List.append]
  refine region_kwalk (S := fun W => SSm W q1 a201 a251 a271 a131 a181 oa1 oc1 (ok1.length) ra1 rc1 (xnl.length) ta1 tc1 (xhl.length) q2 a202 a252 a272 a132 a182 oa2 oc2 (ok2.length) ra2 rc2 (ynl.length) ta2 tc2 (yhl.length) xn xm yn ym xl xs xr yl ys yr ∧ Below w.heap.size w W) (by kernel_rfl) (by kernel_rfl) (by kernel_rfl) HS0.out ?_
  clear HS0
  refine kwL ?_
  refine kwL ?_
  refine kwL ?_
  refine kwL ?_ (by (refine ⟨?_, by rfl, ?_, ?_⟩; rotate_left 1; (· intro W hSw; have hc0 := hSw.1.c0; clear hSw; go_simp; try with_reducible rfl); (· simp only [Act.put, List.setIfInBounds_toArray, List.set_cons_zero, List.set_cons_succ]; rfl)))
  refine kwL ?_
  refine kwL ?_
  refine kwL ?_
  refine kwL ?_ (by (refine ⟨?_, by rfl, ?_, ?_⟩; rotate_left 1; (· intro W hSw; have hd0 := hSw.1.d0; clear hSw; go_simp; try with_reducible rfl); (· simp only [Act.put, List.setIfInBounds_toArray, List.set_cons_zero, List.set_cons_succ]; rfl)))
  by_cases e1 : xn = yn
  rotate_left 1
  · have e1' : (xn == yn) = false := by simpa using e1
    obtain rfl : res = false := by rw [HRES.out]; simp [e1]
    clear e1 HRES
    refine kwL ?_
    refine kwL ?_
    refine kwU ?_
    refine kwU ?_
    refine kwU ?_
    refine kwU ?_
    refine kwU ?_
    refine kwU ?_
    refine kwU ?_
    refine kwU ?_
    refine kwU ?_
    refine kwU ?_
    refine kwU ?_
    refine kwU ?_
    refine kwU ?_
    refine kwU ?_
    refine kwU ?_
    refine kwU ?_
    refine kwU ?_
    refine kwU ?_
    refine kwU ?_
    refine kwU ?_
    refine kwU ?_
    refine kwL ?_
    refine kwL ?_
    refine kwU ?_
    refine kwU ?_
    refine kwU ?_
    refine kwU ?_
    refine kwU ?_
    refine kwU ?_
    refine kwU ?_
    refine kwU ?_
    refine kwU ?_
    refine kwU ?_
    refine kwU ?_
    refine kwU ?_
    refine kwU ?_
    refine kwU ?_
    refine kwU ?_
    refine kwU ?_
    refine kwU ?_
    refine kwU ?_
    refine kwU ?_
    refine kwU ?_
    refine kwU ?_
    refine kwL ?_
    refine kwL ?_
    refine kwU ?_
    refine kwU ?_
    refine kwU ?_
    refine kwL ?_
    refine kwL ?_
    refine kwU ?_
    refine kwU ?_
    refine kwU ?_
    refine kwU ?_
    refine kwU ?_
    refine kwU ?_
    refine kwU ?_
    refine kwU ?_
    refine kwU ?_
    refine kwU ?_
    refine kwU ?_
    refine kwU ?_
    refine kwU ?_
    refine kwU ?_
    refine kwU ?_
    refine kwL ?_
    refine kwL ?_
    refine kwU ?_
    refine kwU ?_
    refine kwU ?_
    refine kwU ?_
    refine kwU ?_
    refine kwU ?_
    refine kwU ?_
    refine kwU ?_
    refine kwU ?_
    refine kwU ?_
    refine kwU ?_
    refine kwU ?_
    refine kwU ?_
    refine kwU ?_
    refine kwU ?_
    refine kwL ?_
    refine kwL ?_
    refine kwU ?_
    refine kwU ?_
    refine kwU ?_
    refine kwU ?_
    refine kwU ?_
    refine kwU ?_
    refine kwU ?_
    refine kwU ?_
    refine kwU ?_
    refine kwU ?_
    refine kwU ?_
    refine kwU ?_
    refine kwU ?_
    refine kwU ?_
    refine kwU ?_
    refine kwL ?_
    refine kwL ?_
    refine kwU ?_
    refine kwU ?_
    refine kwU ?_
    refine kwU ?_
    refine kwU ?_
    refine kwU ?_
    refine kwU ?_
    refine kwU ?_
    refine kwU ?_
    refine kwU ?_
    refine kwU ?_
    refine kwU ?_
    refine kwU ?_
    refine kwU ?_
    refine kwU ?_
    refine kwL ?_
    refine kwL ?_
    refine kw_nil (fun W hW => ?_)
    have HBF := Lib.hid hW.2
    clear hW
    go_wp2_with fail
    go_ret
    exact ⟨rfl, HBF.out⟩
  subst e1
  refine kwL ?_
  refine kwL ?_
  refine kwL ?_
  refine kwL ?_
  refine kwL ?_
  refine kwL ?_ (by (refine ⟨?_, by rfl, ?_, ?_⟩; rotate_left 1; (· intro W hSw; have hc1 := hSw.1.c1; clear hSw; go_simp; try with_reducible rfl); (· simp only [Act.put, List.setIfInBounds_toArray, List.set_cons_zero, List.set_cons_succ]; rfl)))
  refine kwL ?_
  refine kwL ?_
  refine kwL ?_ (by (refine ⟨?_, by rfl, ?_, ?_⟩; rotate_left 1; (· intro W hSw; have hc4 := hSw.1.c4; clear hSw; go_simp; try with_reducible rfl); (· simp only [Act.put, List.setIfInBounds_toArray, List.set_cons_zero, List.set_cons_succ]; rfl)))
  refine kwL ?_
  refine kwL ?_
  refine kwL ?_ (by (refine ⟨?_, by rfl, ?_, ?_⟩; rotate_left 1; (· intro W hSw; have hc7 := hSw.1.c7; clear hSw; go_simp; try with_reducible rfl); (· simp only [Act.put, List.setIfInBounds_toArray, List.set_cons_zero, List.set_cons_succ]; rfl)))
  refine kwL ?_
  refine kwL ?_
  refine kwL ?_
  refine kwL ?_ (by (refine ⟨?_, by rfl, ?_, ?_⟩; rotate_left 1; (· intro W hSw; have hd1 := hSw.1.d1; clear hSw; go_simp; try with_reducible rfl); (· simp only [Act.put, List.setIfInBounds_toArray, List.set_cons_zero, List.set_cons_succ]; rfl)))
  refine kwL ?_
  refine kwL ?_
  refine kwL ?_ (by (refine ⟨?_, by rfl, ?_, ?_⟩; rotate_left 1; (· intro W hSw; have hd4 := hSw.1.d4; clear hSw; go_simp; try with_reducible rfl); (· simp only [Act.put, List.setIfInBounds_toArray, List.set_cons_zero, List.set_cons_succ]; rfl)))
  refine kwL ?_
  refine kwL ?_
  refine kwL ?_ (by (refine ⟨?_, by rfl, ?_, ?_⟩; rotate_left 1; (· intro W hSw; have hd7 := hSw.1.d7; clear hSw; go_simp; try with_reducible rfl); (· simp only [Act.put, List.setIfInBounds_toArray, List.set_cons_zero, List.set_cons_succ]; rfl)))
  by_cases e2 : xm = ym
  rotate_left 1
  · have e2' : (xm == ym) = false := by simpa using e2
    obtain rfl : res = false := by rw [HRES.out]; simp [e2]
    clear e2 HRES
    refine kwL ?_
    refine kwL ?_
    refine kwL ?_
    refine kwU ?_
    refine kwU ?_
    refine kwU ?_
    refine kwU ?_
    refine kwU ?_
    refine kwU ?_
    refine kwU ?_
    refine kwU ?_
    refine kwU ?_
    refine kwU ?_
    refine kwU ?_
    refine kwU ?_
    refine kwU ?_
    refine kwU ?_
    refine kwU ?_
    refine kwU ?_
    refine kwU ?_
    refine kwU ?_
    refine kwU ?_
    refine kwU ?_
    refine kwU ?_
    refine kwL ?_
    refine kwL ?_
    refine kwU ?_
    refine kwU ?_
    refine kwU ?_
    refine kwL ?_
    refine kwL ?_
    refine kwU ?_
    refine kwU ?_
    refine kwU ?_
    refine kwU ?_
    refine kwU ?_
    refine kwU ?_
    refine kwU ?_
    refine kwU ?_
    refine kwU ?_
    refine kwU ?_
    refine kwU ?_
    refine kwU ?_
    refine kwU ?_
    refine kwU ?_
    refine kwU ?_
    refine kwL ?_
    refine kwL ?_
    refine kwU ?_
    refine kwU ?_
    refine kwU ?_
    refine kwU ?_
    refine kwU ?_
    refine kwU ?_
    refine kwU ?_
    refine kwU ?_
    refine kwU ?_
    refine kwU ?_
    refine kwU ?_
    refine kwU ?_
    refine kwU ?_
    refine kwU ?_
    refine kwU ?_
    refine kwL ?_
    refine kwL ?_
    refine kwU ?_
    refine kwU ?_
    refine kwU ?_
    refine kwU ?_
    refine kwU ?_
    refine kwU ?_
    refine kwU ?_
    refine kwU ?_
    refine kwU ?_
    refine kwU ?_
    refine kwU ?_
    refine kwU ?_
    refine kwU ?_
    refine kwU ?_
    refine kwU ?_
    refine kwL ?_
    refine kwL ?_
    refine kwU ?_
    refine kwU ?_
    refine kwU ?_
    refine kwU ?_
    refine kwU ?_
    refine kwU ?_
    refine kwU ?_
    refine kwU ?_
    refine kwU ?_
    refine kwU ?_
    refine kwU ?_
    refine kwU ?_
    refine kwU ?_
    refine kwU ?_
    refine kwU ?_
    refine kwL ?_
    refine kwL ?_
    refine kw_nil (fun W hW => ?_)
    have HBF := Lib.hid hW.2
    clear hW
    go_wp2_with fail
    go_ret
    exact ⟨rfl, HBF.out⟩
  subst e2
  refine kwL ?_
  refine kwL ?_
  refine kwL ?_
  refine kwL ?_
  refine kwL ?_
  refine kwL ?_
  refine kwL ?_ (by (refine ⟨?_, by rfl, ?_, ?_⟩; rotate_left 1; (· intro W hSw; have hc1 := hSw.1.c1; clear hSw; go_simp; try with_reducible rfl); (· simp only [Act.put, List.setIfInBounds_toArray, List.set_cons_zero, List.set_cons_succ]; rfl)))
  refine kwL ?_
  refine kwL ?_
  refine kwL ?_ (by (refine ⟨?_, by rfl, ?_, ?_⟩; rotate_left 1; (· intro W hSw; have hc4 := hSw.1.c4; clear hSw; go_simp; try with_reducible rfl); (· simp only [Act.put, List.setIfInBounds_toArray, List.set_cons_zero, List.set_cons_succ]; rfl)))
  refine kwL ?_
  refine kwL ?_
  refine kwL ?_ (by (refine ⟨?_, by rfl, ?_, ?_⟩; rotate_left 1; (· intro W hSw; have hc6 := hSw.1.c6; clear hSw; go_simp; try with_reducible rfl); (· simp only [Act.put, List.setIfInBounds_toArray, List.set_cons_zero, List.set_cons_succ]; rfl)))
  refine kwL ?_
  refine kwL ?_
  refine kwL ?_
  refine kwL ?_ (by (refine ⟨?_, by rfl, ?_, ?_⟩; rotate_left 1; (· intro W hSw; have hd1 := hSw.1.d1; clear hSw; go_simp; try with_reducible rfl); (· simp only [Act.put, List.setIfInBounds_toArray, List.set_cons_zero, List.set_cons_succ]; rfl)))
  refine kwL ?_
  refine kwL ?_
  refine kwL ?_ (by (refine ⟨?_, by rfl, ?_, ?_⟩; rotate_left 1; (· intro W hSw; have hd4 := hSw.1.d4; clear hSw; go_simp; try with_reducible rfl); (· simp only [Act.put, List.setIfInBounds_toArray, List.set_cons_zero, List.set_cons_succ]; rfl)))
  refine kwL ?_
  refine kwL ?_
  refine kwL ?_ (by (refine ⟨?_, by rfl, ?_, ?_⟩; rotate_left 1; (· intro W hSw; have hd6 := hSw.1.d6; clear hSw; go_simp; try with_reducible rfl); (· simp only [Act.put, List.setIfInBounds_toArray, List.set_cons_zero, List.set_cons_succ]; rfl)))
  refine kw_call (v := .bool qi) (f := 31) (args := #[.slice oa1 ok1.length oc1, .slice oa2 ok2.length oc2]) (by rfl) (by intro W hSw; go_simp; try with_reducible rfl) (fun W hS => (HI.out W hS.2).mono (fun e W2 h => ⟨h.1, HZ.out W2 (hS.2.trans (h.2.mono hS.2.size)), hS.2.trans (h.2.mono hS.2.size)⟩)) (by simp only [Act.put, List.setIfInBounds_toArray, List.set_cons_zero, List.set_cons_succ]; rfl) ?_
  cases qi
  · obtain rfl : res = false := by rw [HRES.out]; simp
    clear HRES
    refine kwL ?_
    refine kwL ?_
    refine kwU ?_
    refine kwU ?_
    refine kwU ?_
    refine kwL ?_
    refine kwL ?_
    refine kwU ?_
    refine kwU ?_
    refine kwU ?_
    refine kwU ?_
    refine kwU ?_
    refine kwU ?_
    refine kwU ?_
    refine kwU ?_
    refine kwU ?_
    refine kwU ?_
    refine kwU ?_
    refine kwU ?_
    refine kwU ?_
    refine kwU ?_
    refine kwU ?_
    refine kwL ?_
    refine kwL ?_
    refine kwU ?_
    refine kwU ?_
    refine kwU ?_
    refine kwU ?_
    refine kwU ?_
    refine kwU ?_
    refine kwU ?_
    refine kwU ?_
    refine kwU ?_
    refine kwU ?_
    refine kwU ?_
    refine kwU ?_
    refine kwU ?_
    refine kwU ?_
    refine kwU ?_
    refine kwL ?_
    refine kwL ?_
    refine kwU ?_
    refine kwU ?_
    refine kwU ?_
    refine kwU ?_
    refine kwU ?_
    refine kwU ?_
    refine kwU ?_
    refine kwU ?_
    refine kwU ?_
    refine kwU ?_
    refine kwU ?_
    refine kwU ?_
    refine kwU ?_
    refine kwU ?_
    refine kwU ?_
    refine kwL ?_
    refine kwL ?_
    refine kwU ?_
    refine kwU ?_
    refine kwU ?_
    refine kwU ?_
    refine kwU ?_
    refine kwU ?_
    refine kwU ?_
    refine kwU ?_
    refine kwU ?_
    refine kwU ?_
    refine kwU ?_
    refine kwU ?_
    refine kwU ?_
    refine kwU ?_
    refine kwU ?_
    refine kwL ?_
    refine kwL ?_
    refine kw_nil (fun W hW => ?_)
    have HBF := Lib.hid hW.2
    clear hW
    go_wp2_with fail
    go_ret
    exact ⟨rfl, HBF.out⟩
  refine kwL ?_
  refine kwL ?_
  refine kwL ?_
  refine kwL ?_
  refine kw_call (v := .bool qn) (f := 32) (args := #[.pointer (some ⟨q1, 0, none⟩), .pointer (some ⟨q2, 0, none⟩)]) (by rfl) (by intro W hSw; go_simp; try with_reducible rfl) (fun W hS => (HN.out W hS.2).mono (fun e W2 h => ⟨h.1, HZ.out W2 (hS.2.trans (h.2.mono hS.2.size)), hS.2.trans (h.2.mono hS.2.size)⟩)) (by simp only [Act.put, List.setIfInBounds_toArray, List.set_cons_zero, List.set_cons_succ]; rfl) ?_
  cases qn
  · obtain rfl : res = false := by rw [HRES.out]; simp
    clear HRES
    refine kwL ?_
    refine kwL ?_
    refine kwU ?_
    refine kwU ?_
    refine kwU ?_
    refine kwU ?_
    refine kwU ?_
    refine kwU ?_
    refine kwU ?_
    refine kwU ?_
    refine kwU ?_
    refine kwU ?_
    refine kwU ?_
    refine kwU ?_
    refine kwU ?_
    refine kwU ?_
    refine kwU ?_
    refine kwL ?_
    refine kwL ?_
    refine kwU ?_
    refine kwU ?_
    refine kwU ?_
    refine kwU ?_
    refine kwU ?_
    refine kwU ?_
    refine kwU ?_
    refine kwU ?_
    refine kwU ?_
    refine kwU ?_
    refine kwU ?_
    refine kwU ?_
    refine kwU ?_
    refine kwU ?_
    refine kwU ?_
    refine kwL ?_
    refine kwL ?_
    refine kwU ?_
    refine kwU ?_
    refine kwU ?_
    refine kwU ?_
    refine kwU ?_
    refine kwU ?_
    refine kwU ?_
    refine kwU ?_
    refine kwU ?_
    refine kwU ?_
    refine kwU ?_
    refine kwU ?_
    refine kwU ?_
    refine kwU ?_
    refine kwU ?_
    refine kwL ?_
    refine kwL ?_
    refine kwU ?_
    refine kwU ?_
    refine kwU ?_
    refine kwU ?_
    refine kwU ?_
    refine kwU ?_
    refine kwU ?_
    refine kwU ?_
    refine kwU ?_
    refine kwU ?_
    refine kwU ?_
    refine kwU ?_
    refine kwU ?_
    refine kwU ?_
    refine kwU ?_
    refine kwL ?_
    refine kwL ?_
    refine kw_nil (fun W hW => ?_)
    have HBF := Lib.hid hW.2
    clear hW
    go_wp2_with fail
    go_ret
    exact ⟨rfl, HBF.out⟩
  refine kwL ?_
  refine kwL ?_
  refine kwL ?_
  refine kwL ?_
  refine kwL ?_
  refine kwL ?_ (by (refine ⟨?_, by rfl, ?_, ?_⟩; rotate_left 1; (· intro W hSw; have hc2 := hSw.1.c2; clear hSw; go_simp; try with_reducible rfl); (· simp only [Act.put, List.setIfInBounds_toArray, List.set_cons_zero, List.set_cons_succ]; rfl)))
  refine kwL ?_
  refine kwL ?_
  refine kwL ?_ (by (refine ⟨?_, by rfl, ?_, ?_⟩; rotate_left 1; (· intro W hSw; have hc9 := hSw.1.c9; clear hSw; go_simp; try with_reducible rfl); (· simp only [Act.put, List.setIfInBounds_toArray, List.set_cons_zero, List.set_cons_succ]; rfl)))
  refine kwL ?_
  refine kwL ?_
  refine kwL ?_
  refine kwL ?_ (by (refine ⟨?_, by rfl, ?_, ?_⟩; rotate_left 1; (· intro W hSw; have hd2 := hSw.1.d2; clear hSw; go_simp; try with_reducible rfl); (· simp only [Act.put, List.setIfInBounds_toArray, List.set_cons_zero, List.set_cons_succ]; rfl)))
  refine kwL ?_
  refine kwL ?_
  refine kwL ?_ (by (refine ⟨?_, by rfl, ?_, ?_⟩; rotate_left 1; (· intro W hSw; have hd9 := hSw.1.d9; clear hSw; go_simp; try with_reducible rfl); (· simp only [Act.put, List.setIfInBounds_toArray, List.set_cons_zero, List.set_cons_succ]; rfl)))
  refine kw_call (v := .bool qh) (f := 33) (args := #[.slice ta1 xhl.length tc1, .slice ta2 yhl.length tc2]) (by rfl) (by intro W hSw; go_simp; try with_reducible rfl) (fun W hS => (HH.out W hS.2).mono (fun e W2 h => ⟨h.1, HZ.out W2 (hS.2.trans (h.2.mono hS.2.size)), hS.2.trans (h.2.mono hS.2.size)⟩)) (by simp only [Act.put, List.setIfInBounds_toArray, List.set_cons_zero, List.set_cons_succ]; rfl) ?_
  cases qh
  · obtain rfl : res = false := by rw [HRES.out]; simp
    clear HRES
    refine kwL ?_
    refine kwL ?_
    refine kwU ?_
    refine kwU ?_
    refine kwU ?_
    refine kwU ?_
    refine kwU ?_
    refine kwU ?_
    refine kwU ?_
    refine kwU ?_
    refine kwU ?_
    refine kwU ?_
    refine kwU ?_
    refine kwU ?_
    refine kwU ?_
    refine kwU ?_
    refine kwU ?_
    refine kwL ?_
    refine kwL ?_
    refine kwU ?_
    refine kwU ?_
    refine kwU ?_
    refine kwU ?_
    refine kwU ?_
    refine kwU ?_
    refine kwU ?_
    refine kwU ?_
    refine kwU ?_
    refine kwU ?_
    refine kwU ?_
    refine kwU ?_
    refine kwU ?_
    refine kwU ?_
    refine kwU ?_
    refine kwL ?_
    refine kwL ?_
    refine kwU ?_
    refine kwU ?_
    refine kwU ?_
    refine kwU ?_
    refine kwU ?_
    refine kwU ?_
    refine kwU ?_
    refine kwU ?_
    refine kwU ?_
    refine kwU ?_
    refine kwU ?_
    refine kwU ?_
    refine kwU ?_
    refine kwU ?_
    refine kwU ?_
    refine kwL ?_
    refine kwL ?_
    refine kw_nil (fun W hW => ?_)
    have HBF := Lib.hid hW.2
    clear hW
    go_wp2_with fail
    go_ret
    exact ⟨rfl, HBF.out⟩
  refine kwL ?_
  refine kwL ?_
  refine kwL ?_
  refine kwL ?_
  refine kwL ?_
  refine kwL ?_ (by (refine ⟨?_, by rfl, ?_, ?_⟩; rotate_left 1; (· intro W hSw; have hc2 := hSw.1.c2; clear hSw; go_simp; try with_reducible rfl); (· simp only [Act.put, List.setIfInBounds_toArray, List.set_cons_zero, List.set_cons_succ]; rfl)))
  refine kwL ?_
  refine kwL ?_
  refine kwL ?_ (by (refine ⟨?_, by rfl, ?_, ?_⟩; rotate_left 1; (· intro W hSw; have hc10 := hSw.1.c10; have hc11 := hSw.1.c11; have hc12 := hSw.1.c12; have hc13 := hSw.1.c13; have hc14 := hSw.1.c14; have hc15 := hSw.1.c15; have hc16 := hSw.1.c16; have hc17 := hSw.1.c17; clear hSw; go_simp; try with_reducible rfl); (· simp only [Act.put, List.setIfInBounds_toArray, List.set_cons_zero, List.set_cons_succ]; rfl)))
  refine kwL ?_
  refine kwL ?_
  refine kwL ?_
  refine kwL ?_ (by (refine ⟨?_, by rfl, ?_, ?_⟩; rotate_left 1; (· intro W hSw; have hd2 := hSw.1.d2; clear hSw; go_simp; try with_reducible rfl); (· simp only [Act.put, List.setIfInBounds_toArray, List.set_cons_zero, List.set_cons_succ]; rfl)))
  refine kwL ?_
  refine kwL ?_
  refine kwL ?_ (by (refine ⟨?_, by rfl, ?_, ?_⟩; rotate_left 1; (· intro W hSw; have hd10 := hSw.1.d10; have hd11 := hSw.1.d11; have hd12 := hSw.1.d12; have hd13 := hSw.1.d13; have hd14 := hSw.1.d14; have hd15 := hSw.1.d15; have hd16 := hSw.1.d16; have hd17 := hSw.1.d17; clear hSw; go_simp; try with_reducible rfl); (· simp only [Act.put, List.setIfInBounds_toArray, List.set_cons_zero, List.set_cons_succ]; rfl)))
  refine kwL ?_
  cases ql
  · obtain rfl : res = false := by rw [HRES.out]; simp
    clear HRES
    refine kwL ?_
    refine kwL ?_
    refine kwU ?_
    refine kwU ?_
    refine kwU ?_
    refine kwU ?_
    refine kwU ?_
    refine kwU ?_
    refine kwU ?_
    refine kwU ?_
    refine kwU ?_
    refine kwU ?_
    refine kwU ?_
    refine kwU ?_
    refine kwU ?_
    refine kwU ?_
    refine kwU ?_
    refine kwL ?_
    refine kwL ?_
    refine kwU ?_
    refine kwU ?_
    refine kwU ?_
    refine kwU ?_
    refine kwU ?_
    refine kwU ?_
    refine kwU ?_
    refine kwU ?_
    refine kwU ?_
    refine kwU ?_
    refine kwU ?_
    refine kwU ?_
    refine kwU ?_
    refine kwU ?_
    refine kwU ?_
    refine kwL ?_
    refine kwL ?_
    refine kw_nil (fun W hW => ?_)
    have HBF := Lib.hid hW.2
    clear hW
    go_wp2_with fail
    go_ret
    exact ⟨rfl, HBF.out⟩
  refine kwL ?_
  refine kwL ?_
  refine kwL ?_
  refine kwL ?_
  refine kwL ?_
  refine kwL ?_ (by (refine ⟨?_, by rfl, ?_, ?_⟩; rotate_left 1; (· intro W hSw; have hc3 := hSw.1.c3; clear hSw; go_simp; try with_reducible rfl); (· simp only [Act.put, List.setIfInBounds_toArray, List.set_cons_zero, List.set_cons_succ]; rfl)))
  refine kwL ?_
  refine kwL ?_
  refine kwL ?_ (by (refine ⟨?_, by rfl, ?_, ?_⟩; rotate_left 1; (· intro W hSw; have hc18 := hSw.1.c18; have hc19 := hSw.1.c19; have hc20 := hSw.1.c20; have hc21 := hSw.1.c21; have hc22 := hSw.1.c22; have hc23 := hSw.1.c23; have hc24 := hSw.1.c24; have hc25 := hSw.1.c25; clear hSw; go_simp; try with_reducible rfl); (· simp only [Act.put, List.setIfInBounds_toArray, List.set_cons_zero, List.set_cons_succ]; rfl)))
  refine kwL ?_
  refine kwL ?_
  refine kwL ?_
  refine kwL ?_ (by (refine ⟨?_, by rfl, ?_, ?_⟩; rotate_left 1; (· intro W hSw; have hd3 := hSw.1.d3; clear hSw; go_simp; try with_reducible rfl); (· simp only [Act.put, List.setIfInBounds_toArray, List.set_cons_zero, List.set_cons_succ]; rfl)))
  refine kwL ?_
  refine kwL ?_
  refine kwL ?_ (by (refine ⟨?_, by rfl, ?_, ?_⟩; rotate_left 1; (· intro W hSw; have hd18 := hSw.1.d18; have hd19 := hSw.1.d19; have hd20 := hSw.1.d20; have hd21 := hSw.1.d21; have hd22 := hSw.1.d22; have hd23 := hSw.1.d23; have hd24 := hSw.1.d24; have hd25 := hSw.1.d25; clear hSw; go_simp; try with_reducible rfl); (· simp only [Act.put, List.setIfInBounds_toArray, List.set_cons_zero, List.set_cons_succ]; rfl)))
  refine kwL ?_
  cases qs
  · obtain rfl : res = false := by rw [HRES.out]; simp
    clear HRES
    refine kwL ?_
    refine kwL ?_
    refine kwU ?_
    refine kwU ?_
    refine kwU ?_
    refine kwU ?_
    refine kwU ?_
    refine kwU ?_
    refine kwU ?_
    refine kwU ?_
    refine kwU ?_
    refine kwU ?_
    refine kwU ?_
    refine kwU ?_
    refine kwU ?_
    refine kwU ?_
    refine kwU ?_
    refine kwL ?_
    refine kwL ?_
    refine kw_nil (fun W hW => ?_)
    have HBF := Lib.hid hW.2
    clear hW
    go_wp2_with fail
    go_ret
    exact ⟨rfl, HBF.out⟩
  refine kwL ?_
  refine kwL ?_
  refine kwL ?_
  refine kwL ?_
  refine kwL ?_
  refine kwL ?_ (by (refine ⟨?_, by rfl, ?_, ?_⟩; rotate_left 1; (· intro W hSw; have hc3 := hSw.1.c3; clear hSw; go_simp; try with_reducible rfl); (· simp only [Act.put, List.setIfInBounds_toArray, List.set_cons_zero, List.set_cons_succ]; rfl)))
  refine kwL ?_
  refine kwL ?_
  refine kwL ?_ (by (refine ⟨?_, by rfl, ?_, ?_⟩; rotate_left 1; (· intro W hSw; have hc26 := hSw.1.c26; have hc27 := hSw.1.c27; have hc28 := hSw.1.c28; have hc29 := hSw.1.c29; have hc30 := hSw.1.c30; have hc31 := hSw.1.c31; have hc32 := hSw.1.c32; have hc33 := hSw.1.c33; have hc34 := hSw.1.c34; have hc35 := hSw.1.c35; have hc36 := hSw.1.c36; have hc37 := hSw.1.c37; have hc38 := hSw.1.c38; have hc39 := hSw.1.c39; have hc40 := hSw.1.c40; have hc41 := hSw.1.c41; clear hSw; go_simp; try with_reducible rfl); (· simp only [Act.put, List.setIfInBounds_toArray, List.set_cons_zero, List.set_cons_succ]; rfl)))
  refine kwL ?_
  refine kwL ?_
  refine kwL ?_
  refine kwL ?_ (by (refine ⟨?_, by rfl, ?_, ?_⟩; rotate_left 1; (· intro W hSw; have hd3 := hSw.1.d3; clear hSw; go_simp; try with_reducible rfl); (· simp only [Act.put, List.setIfInBounds_toArray, List.set_cons_zero, List.set_cons_succ]; rfl)))
  refine kwL ?_
  refine kwL ?_
  refine kwL ?_ (by (refine ⟨?_, by rfl, ?_, ?_⟩; rotate_left 1; (· intro W hSw; have hd26 := hSw.1.d26; have hd27 := hSw.1.d27; have hd28 := hSw.1.d28; have hd29 := hSw.1.d29; have hd30 := hSw.1.d30; have hd31 := hSw.1.d31; have hd32 := hSw.1.d32; have hd33 := hSw.1.d33; have hd34 := hSw.1.d34; have hd35 := hSw.1.d35; have hd36 := hSw.1.d36; have hd37 := hSw.1.d37; have hd38 := hSw.1.d38; have hd39 := hSw.1.d39; have hd40 := hSw.1.d40; have hd41 := hSw.1.d41; clear hSw; go_simp; try with_reducible rfl); (· simp only [Act.put, List.setIfInBounds_toArray, List.set_cons_zero, List.set_cons_succ]; rfl)))
  refine kwL ?_
  obtain rfl : res = qr := by rw [HRES.out]; simp
  clear HRES
  refine kwL ?_
  refine kwL ?_
  refine kw_nil (fun W hW => ?_)
  have HBF := Lib.hid hW.2
  clear hW
  go_wp2_with fail
  go_ret
  exact ⟨rfl, HBF.out⟩
end Go.Proofs.YtpiogibkleaaaaaGreatDoor
