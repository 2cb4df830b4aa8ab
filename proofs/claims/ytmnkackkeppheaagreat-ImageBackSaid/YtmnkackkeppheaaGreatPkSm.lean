import Derived.Test.YtmnkackkeppheaaGreatInoRow
import Derived.Test.YtmnkackkeppheaaGreatEqRow
import Derived.ChangeKeysEq
import Derived.Laws.StructEq
/- package state: how Same compares two lists of inodes -/
namespace Esch
open Go
theorem inS_dec (a0 a1 a2 a3 a4 b0 b1 b2 b3 b4 : Int) (l m : List PtS) : decide ((⟨a0, a1, a2, a3, a4, l⟩ : InS) = ⟨b0, b1, b2, b3, b4, m⟩) = (decide (a0 = b0) && (decide (a1 = b1) && (decide (a2 = b2) && (decide (a3 = b3) && (decide (a4 = b4) && decide (l = m)))))) := by
  by_cases h0 : a0 = b0 <;> by_cases h1 : a1 = b1 <;> by_cases h2 : a2 = b2 <;> by_cases h3 : a3 = b3 <;> by_cases h4 : a4 = b4 <;> by_cases h5 : l = m <;> simp [h0, h1, h2, h3, h4, h5]
end Esch
namespace Go.Proofs.YtmnkackkeppheaaGreat
open Go.RowKit Esch

set_option linter.unusedSimpArgs false
def InEqPost (w : World) (b : Bool) (e : Ending) (w' : World) : Prop := e = .returned (.bool b) ∧ Below w.heap.size w w'
set_option maxRecDepth 100000 in
set_option maxHeartbeats 8000000 in
theorem inEq_any (w : World) (S T : Nat → Prop) (u v : InC) (hu : PcOk w S u) (hv : PcOk w T v) : Calls Tryz.prog 29 #[.agg u.cells.toArray, .agg v.cells.toArray] w (InEqPost w (decide (u.val = v.val))) := by
  obtain ⟨u0, u1, u2, u3, u4, pu, cu, lu⟩ := u
  obtain ⟨v0, v1, v2, v3, v4, pv, cv, lv⟩ := v
  have hpt : ∀ W, Below w.heap.size w W → Calls Tryz.prog 30 #[.slice pu lu.length cu, .slice pv lv.length cv] W fun e w' => e = .returned (.bool (decide (lu = lv))) ∧ Below W.heap.size W w' := fun W hW => eqPt_any W S T pu pv cu cv lu lv (hu.below' hW).row (hv.below' hW).row hu.few
  rw [show decide ((⟨u0, u1, u2, u3, u4, pu, cu, lu⟩ : InC).val = (⟨v0, v1, v2, v3, v4, pv, cv, lv⟩ : InC).val) = _ from inS_dec u0 u1 u2 u3 u4 v0 v1 v2 v3 v4 lu lv]
  simp only [InC.cells]
  obtain ⟨q, hq⟩ : ∃ q, q = decide (lu = lv) := ⟨_, rfl⟩
  rw [← hq] at hpt ⊢
  clear hq hu hv
  generalize lu.length = nu at *
  generalize lv.length = nv at *
  by_cases h0 : u0 = v0
  rotate_left 1
  · have e0 : (u0 == v0) = false := by simpa using h0
    rw [decide_eq_false h0]
    simp only [Bool.false_and, Bool.and_false, decide_true, Bool.true_and]
    clear h0 hpt
    go_enter Tryz.func29, Tryz.ntmps29
    go_wp2_with fail
    go_ret
    exact ⟨rfl, by exact belC (Below.refl _ _)⟩
  subst h0
  by_cases h1 : u1 = v1
  rotate_left 1
  · have e1 : (u1 == v1) = false := by simpa using h1
    rw [decide_eq_false h1]
    simp only [Bool.false_and, Bool.and_false, decide_true, Bool.true_and]
    clear h1 hpt
    go_enter Tryz.func29, Tryz.ntmps29
    go_wp2_with fail
    go_ret
    exact ⟨rfl, by exact belC (Below.refl _ _)⟩
  subst h1
  by_cases h2 : u2 = v2
  rotate_left 1
  · have e2 : (u2 == v2) = false := by simpa using h2
    rw [decide_eq_false h2]
    simp only [Bool.false_and, Bool.and_false, decide_true, Bool.true_and]
    clear h2 hpt
    go_enter Tryz.func29, Tryz.ntmps29
    go_wp2_with fail
    go_ret
    exact ⟨rfl, by exact belC (Below.refl _ _)⟩
  subst h2
  by_cases h3 : u3 = v3
  rotate_left 1
  · have e3 : (u3 == v3) = false := by simpa using h3
    rw [decide_eq_false h3]
    simp only [Bool.false_and, Bool.and_false, decide_true, Bool.true_and]
    clear h3 hpt
    go_enter Tryz.func29, Tryz.ntmps29
    go_wp2_with fail
    go_ret
    exact ⟨rfl, by exact belC (Below.refl _ _)⟩
  subst h3
  by_cases h4 : u4 = v4
  rotate_left 1
  · have e4 : (u4 == v4) = false := by simpa using h4
    rw [decide_eq_false h4]
    simp only [Bool.false_and, Bool.and_false, decide_true, Bool.true_and]
    clear h4 hpt
    go_enter Tryz.func29, Tryz.ntmps29
    go_wp2_with fail
    go_ret
    exact ⟨rfl, by exact belC (Below.refl _ _)⟩
  subst h4
  simp only [decide_true, Bool.true_and]
  obtain ⟨W2, hW2⟩ : ∃ W2, W2 = (w.alloc (.cells #[.int .i64 u0, .int .i64 u1, .int .i64 u2, .int .i64 u3, .int .i64 u4, .slice pu nu cu] 102)).alloc (.cells #[.int .i64 u0, .int .i64 u1, .int .i64 u2, .int .i64 u3, .int .i64 u4, .slice pv nv cv] 102) := ⟨_, rfl⟩
  have hB : Below w.heap.size w W2 := by rw [hW2]; exact belC (Below.refl _ _)
  have hp2 := hpt W2 hB
  rw [hW2] at hp2
  have HB := Lib.hid hB
  have HW2 := Lib.hid hW2
  clear hpt hB hW2
  go_enter Tryz.func29, Tryz.ntmps29
  go_wp2_with fail
  refine hp2.mono ?_
  clear hp2
  rw [← HW2.out]
  rintro e w2 ⟨rfl, hB2⟩
  have HB2 := Lib.hid (HB.out.trans (hB2.mono HB.out.size))
  clear hB2
  go_wp2_with fail
  go_ret
  exact ⟨rfl, HB2.out⟩
def InLRel (n : Nat) (x y : List InC) (w : World) (g : Nat) (s17 : Value) (wr : World) : Prop := ∃ i : Nat, g = n - i ∧ i ≤ n ∧ s17 = .int .i64 i ∧ (x.take i).map InC.val = (y.take i).map InC.val ∧ Below w.heap.size w wr
set_option maxRecDepth 100000 in
set_option maxHeartbeats 4000000 in
theorem eqIn_any (w : World) (S T : Nat → Prop) (a b : Option Addr) (c d : Nat) (x y : List InC) (hx : InosAt w S a x) (hy : InosAt w T b y) (h8 : x.length ≤ 100000) :
    Calls Tryz.prog 28 #[.slice a x.length c, .slice b y.length d, .func (.func 29) #[] #[]] w (InEqPost w (decide (x.map InC.val = y.map InC.val))) := by
  by_cases hl : x.length = y.length
  rotate_left 1
  · have hl2 : ((x.length : Int) != y.length) = true := by simp only [bne_iff_ne, ne_eq]; omega
    rw [decide_eq_false (fun e => hl (by have := congrArg List.length e; simpa using this))]
    go_enter Tryz.func28, Tryz.ntmps28
    go_wp2_with fail
    go_ret
    exact ⟨rfl, Below.refl _ _⟩
  · have hl2 : ((x.length : Int) != y.length) = false := by simp only [bne_eq_false_iff_eq]; omega
    have HX := Lib.hid hx
    have HY := Lib.hid hy
    have HL := Lib.hid hl
    obtain ⟨n, hn⟩ : ∃ n, n = x.length := ⟨_, rfl⟩
    rw [← hl, ← hn]
    obtain ⟨dv, hdv⟩ : ∃ dv, dv = decide (x.map InC.val = y.map InC.val) := ⟨_, rfl⟩
    rw [← hdv]
    have HDV := Lib.hid hdv
    clear hdv
    have Hn := Lib.hid hn
    have hn8 : n ≤ 100000 := by omega
    clear hx hy hl hl2 h8 hn
    go_enter Tryz.func28, Tryz.ntmps28
    go_wp2_with fail
    go_loopg [17] n (fun g s5 wr => InLRel n x y w g s5 wr)
    case atStart => exact ⟨0, rfl, Nat.zero_le _, rfl, rfl, Below.refl _ _⟩
    case round =>
      obtain ⟨i, rfl, hi, rfl, hte, hB⟩ := hrel
      have HT := Lib.hid hte
      have HB := Lib.hid hB
      clear hte hB
      by_cases hlt : i < n
      · have hix : i < x.length := by have := Hn.out; omega
        have hiy : i < y.length := by have := HL.out; omega
        obtain ⟨xb, xo, rfl, -, hxl, hxc⟩ := HX.out.row.elem InC.cells_len default hix
        obtain ⟨yb, yo, rfl, -, hyl, hyc⟩ := HY.out.row.elem InC.cells_len default hiy
        have hpu := HX.out.pts _ (getDmem x default hix)
        have hpv := HY.out.pts _ (getDmem y default hiy)
        have HTX := Lib.hid (take_one x default hix)
        have HTY := Lib.hid (take_one y default hiy)
        generalize x.getD i default = u at *
        generalize y.getD i default = v at *
        have heq : ∀ W, Below w.heap.size w W → Calls Tryz.prog 29 #[.agg u.cells.toArray, .agg v.cells.toArray] W (InEqPost W (decide (u.val = v.val))) := fun W hW => inEq_any W S T u v (hpu.below' hW) (hpv.below' hW)
        obtain ⟨q, hq⟩ : ∃ q, q = decide (u.val = v.val) := ⟨_, rfl⟩
        rw [← hq] at heq
        have HQ := Lib.hid hq
        clear hq hpu hpv
        obtain ⟨u0, u1, u2, u3, u4, pu, cu, lu⟩ := u
        obtain ⟨v0, v1, v2, v3, v4, pv, cv, lv⟩ := v
        have f0 : wr.cell? ⟨xb, xo + i * 6, none⟩ = some (.int .i64 u0) := below_at HB.out (hxc 0 (by decide)) hxl
        have f1 : wr.cell? ⟨xb, xo + i * 6 + 1, none⟩ = some (.int .i64 u1) := below_at HB.out (hxc 1 (by decide)) hxl
        have f2 : wr.cell? ⟨xb, xo + i * 6 + 2, none⟩ = some (.int .i64 u2) := below_at HB.out (hxc 2 (by decide)) hxl
        have f3 : wr.cell? ⟨xb, xo + i * 6 + 3, none⟩ = some (.int .i64 u3) := below_at HB.out (hxc 3 (by decide)) hxl
        have f4 : wr.cell? ⟨xb, xo + i * 6 + 4, none⟩ = some (.int .i64 u4) := below_at HB.out (hxc 4 (by decide)) hxl
        have f5 : wr.cell? ⟨xb, xo + i * 6 + 5, none⟩ = some (.slice pu lu.length cu) := below_at HB.out (hxc 5 (by decide)) hxl
        have g0 : wr.cell? ⟨yb, yo + i * 6, none⟩ = some (.int .i64 v0) := below_at HB.out (hyc 0 (by decide)) hyl
        have g1 : wr.cell? ⟨yb, yo + i * 6 + 1, none⟩ = some (.int .i64 v1) := below_at HB.out (hyc 1 (by decide)) hyl
        have g2 : wr.cell? ⟨yb, yo + i * 6 + 2, none⟩ = some (.int .i64 v2) := below_at HB.out (hyc 2 (by decide)) hyl
        have g3 : wr.cell? ⟨yb, yo + i * 6 + 3, none⟩ = some (.int .i64 v3) := below_at HB.out (hyc 3 (by decide)) hyl
        have g4 : wr.cell? ⟨yb, yo + i * 6 + 4, none⟩ = some (.int .i64 v4) := below_at HB.out (hyc 4 (by decide)) hyl
        have g5 : wr.cell? ⟨yb, yo + i * 6 + 5, none⟩ = some (.slice pv lv.length cv) := below_at HB.out (hyc 5 (by decide)) hyl
        have hxl' := cell_lt f0
        have hyl' := cell_lt g0
        have hzB := HB.out.size
        have hil2 : (0 : Int) ≤ i ∧ (i : Int) < n := by omega
        have hi1 : i + 1 ≤ n := hlt
        have hms : n - (i + 1) < n - i := Nat.sub_lt_sub_left hlt (Nat.lt_succ_self i)
        have hwr1 := Lib.hid (show wrap64 ((i : Int) + 1) = ((i + 1 : Nat) : Int) by unfold wrap64; omega)
        simp only [InC.cells] at heq
        obtain ⟨W2, hW2⟩ : ∃ W2, W2 = (wr.alloc (.cells #[.int .i64 u0, .int .i64 u1, .int .i64 u2, .int .i64 u3, .int .i64 u4, .slice pu lu.length cu] 102)).alloc (.cells #[.int .i64 v0, .int .i64 v1, .int .i64 v2, .int .i64 v3, .int .i64 v4, .slice pv lv.length cv] 102) := ⟨_, rfl⟩
        have hB2 : Below w.heap.size w W2 := by rw [hW2]; exact belC HB.out
        have hp2 := heq W2 hB2
        rw [hW2] at hp2
        have HB2 := Lib.hid hB2
        have HW2 := Lib.hid hW2
        clear heq hB2 hW2 hxc hyc
        go_wp2_with fail
        refine hp2.mono ?_
        clear hp2
        rw [← HW2.out]
        rintro e w3 ⟨rfl, hB3⟩
        have HB3 := Lib.hid (HB2.out.trans (hB3.mono HB2.out.size))
        clear hB3
        cases q
        · have hdv : dv = false := by
            rw [HDV.out]
            refine decide_eq_false (fun e => ?_)
            have h1 := congrArg (List.take (i + 1)) e
            rw [← List.map_take, ← List.map_take, HTX.out, HTY.out, List.map_append, List.map_append, HT.out] at h1
            have h2 := List.append_cancel_left h1
            exact (of_decide_eq_false HQ.out.symm) (by simpa using h2)
          subst hdv
          go_wp2_with fail
          go_ret
          exact ⟨rfl, HB3.out⟩
        · go_wp2_with fail
          go_roundg (n - (i + 1))
          case measure => exact hms
          case rel => exact ⟨i + 1, rfl, hi1, by first | rfl | rw [hwr1.out], by rw [HTX.out, HTY.out, List.map_append, List.map_append, HT.out, List.map_singleton, List.map_singleton, of_decide_eq_true HQ.out.symm], HB3.out⟩
      · obtain rfl : i = n := by omega
        have hxy : x.map InC.val = y.map InC.val := by
          have h1 := HT.out
          rw [List.take_of_length_le (by have := Hn.out; omega), List.take_of_length_le (by have := Hn.out; have := HL.out; omega)] at h1
          exact h1
        have hdv : dv = true := by rw [HDV.out]; exact decide_eq_true hxy
        subst hdv
        clear hlt
        go_wp2_with fail
        go_ret
        exact ⟨rfl, HB.out⟩
end Go.Proofs.YtmnkackkeppheaaGreat
/- package state: Same of two dumps -/
namespace Esch
open Go Go.RowKit
def first (n : Nat) (f : Nat → Int) : List Int := (List.range n).map f
/-- a dump as it lies -/
structure DmC where
  n : Int
  ia : Option Addr
  ic : Nat
  ik : List InC
  m : Int
  na : Option Addr
  nc : Nat
  nl : List EqK
  ha : Option Addr
  hc : Nat
  hl : List Hd
  l : Nat → Int
  s : Nat → Int
  r : Nat → Int
def DmC.cells (x : DmC) : List Value := [.int .i64 x.n, .slice x.ia x.ik.length x.ic, .int .i64 x.m, .slice x.na x.nl.length x.nc, .slice x.ha x.hl.length x.hc, .int .i64 (x.l 0), .int .i64 (x.l 1), .int .i64 (x.l 2), .int .i64 (x.l 3), .int .i64 (x.l 4), .int .i64 (x.l 5), .int .i64 (x.l 6), .int .i64 (x.l 7), .int .i64 (x.s 0), .int .i64 (x.s 1), .int .i64 (x.s 2), .int .i64 (x.s 3), .int .i64 (x.s 4), .int .i64 (x.s 5), .int .i64 (x.s 6), .int .i64 (x.s 7), .int .i64 (x.r 0), .int .i64 (x.r 1), .int .i64 (x.r 2), .int .i64 (x.r 3), .int .i64 (x.r 4), .int .i64 (x.r 5), .int .i64 (x.r 6), .int .i64 (x.r 7), .int .i64 (x.r 8), .int .i64 (x.r 9), .int .i64 (x.r 10), .int .i64 (x.r 11), .int .i64 (x.r 12), .int .i64 (x.r 13), .int .i64 (x.r 14), .int .i64 (x.r 15)]
structure DmOk (w : World) (S : Nat → Prop) (x : DmC) : Prop where
  ino : InosAt w S x.ia x.ik
  nam : RwAt w S 3 x.nl.length x.na (x.nl.flatMap enC)
  hdl : RwAt w S 3 x.hl.length x.ha (x.hl.flatMap hdC)
  i1 : x.ik.length ≤ 100000
  n1 : x.nl.length ≤ 100000
  h1 : x.hl.length ≤ 100000
def DmC.same (x y : DmC) : Bool := decide (x.ik.map InC.val = y.ik.map InC.val) && (decide (x.n = y.n) && (decide (x.m = y.m) && (decide (x.nl = y.nl) && (decide (x.hl = y.hl) && (decide (first 8 x.l = first 8 y.l) && (decide (first 8 x.s = first 8 y.s) && decide (first 16 x.r = first 16 y.r)))))))
end Esch
namespace Go.Proofs.YtmnkackkeppheaaGreat
open Go.RowKit Esch

set_option linter.unusedSimpArgs false
theorem eqItems_gen {P : Program} (w : World) (d : Nat) (e : TypeId) (c : Nat) (xs ys : Array Value) (A B : Nat → Value) (r : Nat → Bool) : ∀ is : List Nat, (∀ i ∈ is, (part e xs (i * c)).run P w = .ok (A i) w ∧ (part e ys (i * c)).run P w = .ok (B i) w ∧ (Op.equalIn d e (A i) (B i)).run P w = .ok (r i) w) → (Op.eqItems d e c xs ys is).run P w = .ok (is.all r) w
  | [], _ => rfl
  | i :: is, h => by
    obtain ⟨h1, h2, h3⟩ := h i (by simp)
    have ih := eqItems_gen w d e c xs ys A B r is (fun k hk => h k (by simp [hk]))
    simp only [Op.eqItems, Sem.run_bind, h1, h2, h3, Result.andThen_ok]
    cases hr : r i
    · simp [hr]
    · simpa [hr] using ih
set_option maxRecDepth 100000 in
theorem eqA64 (f g : Nat → Int) (w : World) : (binOp .eql 26 (.agg #[.int .i64 (f 0), .int .i64 (f 1), .int .i64 (f 2), .int .i64 (f 3), .int .i64 (f 4), .int .i64 (f 5), .int .i64 (f 6), .int .i64 (f 7)]) (.agg #[.int .i64 (g 0), .int .i64 (g 1), .int .i64 (g 2), .int .i64 (g 3), .int .i64 (g 4), .int .i64 (g 5), .int .i64 (g 6), .int .i64 (g 7)])).run Tryz.prog w = .ok (.bool (decide (first 8 f = first 8 g))) w := by
  have u3 := Tryz.underlying2
  have a3 := Tryz.isAgg2
  have z3 := Tryz.sizeOf2
  have u4 := Tryz.underlying3
  have a4 := Tryz.isAgg3
  have z4 := Tryz.sizeOf3
  have hcl : Tryz.prog.cellsOf 2 = 1 := by kernel_rfl
  obtain ⟨i, hi⟩ := Option.isSome_iff_exists.1 (show (Tryz.prog.info? 2).isSome = true by kernel_rfl)
  rw [run_eql_struct, show (10000 : Nat) = 9999 + 1 from rfl, run_equalIn_array (n := 8) (e := 2) w 9999 _ _ (by kernel_rfl) hi, hcl]
  rw [eqItems_gen w 9999 2 1 _ _ (fun i => .int .i64 (f i)) (fun i => .int .i64 (g i)) (fun i => f i == g i) (List.range 8) (fun i hi => by
    have hk : i = 0 ∨ i = 1 ∨ i = 2 ∨ i = 3 ∨ i = 4 ∨ i = 5 ∨ i = 6 ∨ i = 7 := by have := List.mem_range.1 hi; omega
    clear hi
    rcases hk with rfl | rfl | rfl | rfl | rfl | rfl | rfl | rfl <;> exact ⟨by go_simp, by go_simp, by go_simp⟩)]
  simp only [Result.andThen_ok]
  congr 2
  rw [Bool.eq_iff_iff]
  simp [first, List.range, List.range.loop]
theorem gdeqA64 (op : BinOp) (a b : Operand) (f g : Nat → Int) (w : World) : (eqGuard op 26 a b (.agg #[.int .i64 (f 0), .int .i64 (f 1), .int .i64 (f 2), .int .i64 (f 3), .int .i64 (f 4), .int .i64 (f 5), .int .i64 (f 6), .int .i64 (f 7)]) (.agg #[.int .i64 (g 0), .int .i64 (g 1), .int .i64 (g 2), .int .i64 (g 3), .int .i64 (g 4), .int .i64 (g 5), .int .i64 (g 6), .int .i64 (g 7)])).run Tryz.prog w = .ok () w := run_eqGuard_agg w op _ a b _ _ (by kernel_rfl)
set_option maxRecDepth 100000 in
theorem eqAI (f g : Nat → Int) (w : World) : (binOp .eql 27 (.agg #[.int .i64 (f 0), .int .i64 (f 1), .int .i64 (f 2), .int .i64 (f 3), .int .i64 (f 4), .int .i64 (f 5), .int .i64 (f 6), .int .i64 (f 7)]) (.agg #[.int .i64 (g 0), .int .i64 (g 1), .int .i64 (g 2), .int .i64 (g 3), .int .i64 (g 4), .int .i64 (g 5), .int .i64 (g 6), .int .i64 (g 7)])).run Tryz.prog w = .ok (.bool (decide (first 8 f = first 8 g))) w := by
  have u3 := Tryz.underlying3
  have a3 := Tryz.isAgg3
  have z3 := Tryz.sizeOf3
  have u4 := Tryz.underlying3
  have a4 := Tryz.isAgg3
  have z4 := Tryz.sizeOf3
  have hcl : Tryz.prog.cellsOf 3 = 1 := by kernel_rfl
  obtain ⟨i, hi⟩ := Option.isSome_iff_exists.1 (show (Tryz.prog.info? 3).isSome = true by kernel_rfl)
  rw [run_eql_struct, show (10000 : Nat) = 9999 + 1 from rfl, run_equalIn_array (n := 8) (e := 3) w 9999 _ _ (by kernel_rfl) hi, hcl]
  rw [eqItems_gen w 9999 3 1 _ _ (fun i => .int .i64 (f i)) (fun i => .int .i64 (g i)) (fun i => f i == g i) (List.range 8) (fun i hi => by
    have hk : i = 0 ∨ i = 1 ∨ i = 2 ∨ i = 3 ∨ i = 4 ∨ i = 5 ∨ i = 6 ∨ i = 7 := by have := List.mem_range.1 hi; omega
    clear hi
    rcases hk with rfl | rfl | rfl | rfl | rfl | rfl | rfl | rfl <;> exact ⟨by go_simp, by go_simp, by go_simp⟩)]
  simp only [Result.andThen_ok]
  congr 2
  rw [Bool.eq_iff_iff]
  simp [first, List.range, List.range.loop]
theorem gdeqAI (op : BinOp) (a b : Operand) (f g : Nat → Int) (w : World) : (eqGuard op 27 a b (.agg #[.int .i64 (f 0), .int .i64 (f 1), .int .i64 (f 2), .int .i64 (f 3), .int .i64 (f 4), .int .i64 (f 5), .int .i64 (f 6), .int .i64 (f 7)]) (.agg #[.int .i64 (g 0), .int .i64 (g 1), .int .i64 (g 2), .int .i64 (g 3), .int .i64 (g 4), .int .i64 (g 5), .int .i64 (g 6), .int .i64 (g 7)])).run Tryz.prog w = .ok () w := run_eqGuard_agg w op _ a b _ _ (by kernel_rfl)
set_option maxRecDepth 100000 in
theorem eqAR (f g : Nat → Int) (w : World) : (binOp .eql 30 (.agg #[.int .i64 (f 0), .int .i64 (f 1), .int .i64 (f 2), .int .i64 (f 3), .int .i64 (f 4), .int .i64 (f 5), .int .i64 (f 6), .int .i64 (f 7), .int .i64 (f 8), .int .i64 (f 9), .int .i64 (f 10), .int .i64 (f 11), .int .i64 (f 12), .int .i64 (f 13), .int .i64 (f 14), .int .i64 (f 15)]) (.agg #[.int .i64 (g 0), .int .i64 (g 1), .int .i64 (g 2), .int .i64 (g 3), .int .i64 (g 4), .int .i64 (g 5), .int .i64 (g 6), .int .i64 (g 7), .int .i64 (g 8), .int .i64 (g 9), .int .i64 (g 10), .int .i64 (g 11), .int .i64 (g 12), .int .i64 (g 13), .int .i64 (g 14), .int .i64 (g 15)])).run Tryz.prog w = .ok (.bool (decide (first 16 f = first 16 g))) w := by
  have u3 := Tryz.underlying29
  have a3 := Tryz.isAgg29
  have z3 := Tryz.sizeOf29
  have u4 := Tryz.underlying3
  have a4 := Tryz.isAgg3
  have z4 := Tryz.sizeOf3
  have hS : Tryz.prog.underlying 29 = some (.struct (Tryz.prog.fieldsOf 29)) := by kernel_rfl
  have hp : Tryz.prog.stoodInHeld 29 = false := by kernel_rfl
  have hcl : Tryz.prog.cellsOf 29 = 2 := by kernel_rfl
  obtain ⟨i, hi⟩ := Option.isSome_iff_exists.1 (show (Tryz.prog.info? 29).isSome = true by kernel_rfl)
  rw [run_eql_struct, show (10000 : Nat) = 9999 + 1 from rfl, run_equalIn_array (n := 8) (e := 29) w 9999 _ _ (by kernel_rfl) hi, hcl]
  rw [eqItems_gen w 9999 29 2 _ _ (fun i => .agg #[.int .i64 (f (2 * i)), .int .i64 (f (2 * i + 1))]) (fun i => .agg #[.int .i64 (g (2 * i)), .int .i64 (g (2 * i + 1))]) (fun i => (f (2 * i) == g (2 * i)) && (f (2 * i + 1) == g (2 * i + 1))) (List.range 8) (fun i hi => by
    have hk : i = 0 ∨ i = 1 ∨ i = 2 ∨ i = 3 ∨ i = 4 ∨ i = 5 ∨ i = 6 ∨ i = 7 := by have := List.mem_range.1 hi; omega
    clear hi
    rcases hk with rfl | rfl | rfl | rfl | rfl | rfl | rfl | rfl <;> exact ⟨by go_simp, by go_simp, by rw [show (9999 : Nat) = 9998 + 1 from rfl, run_equalIn_agg w 9998 29 _ _ hS hp]; simp only [Program.fieldsOf, Tryz.underlying29]; go_simp; split <;> (try split) <;> simp [*]⟩)]
  simp only [Result.andThen_ok]
  congr 2
  rw [Bool.eq_iff_iff]
  simp [first, List.range, List.range.loop, and_assoc]
theorem gdeqAR (op : BinOp) (a b : Operand) (f g : Nat → Int) (w : World) : (eqGuard op 30 a b (.agg #[.int .i64 (f 0), .int .i64 (f 1), .int .i64 (f 2), .int .i64 (f 3), .int .i64 (f 4), .int .i64 (f 5), .int .i64 (f 6), .int .i64 (f 7), .int .i64 (f 8), .int .i64 (f 9), .int .i64 (f 10), .int .i64 (f 11), .int .i64 (f 12), .int .i64 (f 13), .int .i64 (f 14), .int .i64 (f 15)]) (.agg #[.int .i64 (g 0), .int .i64 (g 1), .int .i64 (g 2), .int .i64 (g 3), .int .i64 (g 4), .int .i64 (g 5), .int .i64 (g 6), .int .i64 (g 7), .int .i64 (g 8), .int .i64 (g 9), .int .i64 (g 10), .int .i64 (g 11), .int .i64 (g 12), .int .i64 (g 13), .int .i64 (g 14), .int .i64 (g 15)])).run Tryz.prog w = .ok () w := run_eqGuard_agg w op _ a b _ _ (by kernel_rfl)
set_option maxRecDepth 100000 in
set_option maxHeartbeats 16000000 in
theorem stSame_any (w : World) (S T : Nat → Prop) (x y : DmC) (hx : DmOk w S x) (hy : DmOk w T y) : Calls Tryz.prog 8 #[.agg x.cells.toArray, .agg y.cells.toArray] w (InEqPost w (x.same y)) := by
  obtain ⟨xn, xia, xic, xik, xm, xna, xnc, xnl, xha, xhc, xhl, xl, xs, xr⟩ := x
  obtain ⟨yn, yia, yic, yik, ym, yna, ync, ynl, yha, yhc, yhl, yl, ys, yr⟩ := y
  have HI : Hid (∀ W, Below w.heap.size w W → Calls Tryz.prog 28 #[.slice xia xik.length xic, .slice yia yik.length yic, .func (.func 29) #[] #[]] W (InEqPost W (decide (xik.map InC.val = yik.map InC.val)))) := Lib.hid (fun W hB => eqIn_any W S T xia yia xic yic xik yik (hx.ino.below' hB) (hy.ino.below' hB) hx.i1)
  have HN : Hid (∀ W, Below w.heap.size w W → Calls Tryz.prog 31 #[.slice xna xnl.length xnc, .slice yna ynl.length ync] W fun e w' => e = .returned (.bool (decide (xnl = ynl))) ∧ Below W.heap.size W w') := Lib.hid (fun W hB => eqEn_any W S T xna yna xnc ync xnl ynl (hx.nam.below' hB) (hy.nam.below' hB) hx.n1)
  have HH : Hid (∀ W, Below w.heap.size w W → Calls Tryz.prog 32 #[.slice xha xhl.length xhc, .slice yha yhl.length yhc] W fun e w' => e = .returned (.bool (decide (xhl = yhl))) ∧ Below W.heap.size W w') := Lib.hid (fun W hB => eqHd_any W S T xha yha xhc yhc xhl yhl (hx.hdl.below' hB) (hy.hdl.below' hB) hx.h1)
  clear hx hy
  unfold DmC.same
  simp only [DmC.cells]
  obtain ⟨qi, hqi⟩ : ∃ q, q = decide (xik.map InC.val = yik.map InC.val) := ⟨_, rfl⟩
  obtain ⟨qn, hqn⟩ : ∃ q, q = decide (xnl = ynl) := ⟨_, rfl⟩
  obtain ⟨qh, hqh⟩ : ∃ q, q = decide (xhl = yhl) := ⟨_, rfl⟩
  obtain ⟨ql, hql⟩ : ∃ q, q = decide (first 8 xl = first 8 yl) := ⟨_, rfl⟩
  obtain ⟨qs, hqs⟩ : ∃ q, q = decide (first 8 xs = first 8 ys) := ⟨_, rfl⟩
  obtain ⟨qr, hqr⟩ : ∃ q, q = decide (first 16 xr = first 16 yr) := ⟨_, rfl⟩
  have hel := eqA64 xl yl
  have hes := eqAI xs ys
  have her := eqAR xr yr
  have hgl := fun op a b => gdeqA64 op a b xl yl
  have hgs := fun op a b => gdeqAI op a b xs ys
  have hgr := fun op a b => gdeqAR op a b xr yr
  rw [← hqi] at HI
  rw [← hqn] at HN
  rw [← hqh] at HH
  rw [← hql] at hel
  rw [← hqs] at hes
  rw [← hqr] at her
  rw [← hqi, ← hqn, ← hqh, ← hql, ← hqs, ← hqr]
  clear hqi hqn hqh hql hqs hqr
  obtain ⟨res, hres⟩ : ∃ res, res = (qi && (decide (xn = yn) && (decide (xm = ym) && (qn && (qh && (ql && (qs && qr))))))) := ⟨_, rfl⟩
  rw [← hres]
  have HRES := Lib.hid hres
  clear hres
  generalize xik.length = xil at *
  generalize yik.length = yil at *
  generalize xnl.length = xnl at *
  generalize ynl.length = ynl at *
  generalize xhl.length = xhl at *
  generalize yhl.length = yhl at *
  obtain ⟨W2, hW2⟩ : ∃ W2, W2 = (w.alloc (.cells #[.int .i64 xn, .slice xia xil xic, .int .i64 xm, .slice xna xnl xnc, .slice xha xhl xhc, .int .i64 (xl 0), .int .i64 (xl 1), .int .i64 (xl 2), .int .i64 (xl 3), .int .i64 (xl 4), .int .i64 (xl 5), .int .i64 (xl 6), .int .i64 (xl 7), .int .i64 (xs 0), .int .i64 (xs 1), .int .i64 (xs 2), .int .i64 (xs 3), .int .i64 (xs 4), .int .i64 (xs 5), .int .i64 (xs 6), .int .i64 (xs 7), .int .i64 (xr 0), .int .i64 (xr 1), .int .i64 (xr 2), .int .i64 (xr 3), .int .i64 (xr 4), .int .i64 (xr 5), .int .i64 (xr 6), .int .i64 (xr 7), .int .i64 (xr 8), .int .i64 (xr 9), .int .i64 (xr 10), .int .i64 (xr 11), .int .i64 (xr 12), .int .i64 (xr 13), .int .i64 (xr 14), .int .i64 (xr 15)] 32)).alloc (.cells #[.int .i64 yn, .slice yia yil yic, .int .i64 ym, .slice yna ynl ync, .slice yha yhl yhc, .int .i64 (yl 0), .int .i64 (yl 1), .int .i64 (yl 2), .int .i64 (yl 3), .int .i64 (yl 4), .int .i64 (yl 5), .int .i64 (yl 6), .int .i64 (yl 7), .int .i64 (ys 0), .int .i64 (ys 1), .int .i64 (ys 2), .int .i64 (ys 3), .int .i64 (ys 4), .int .i64 (ys 5), .int .i64 (ys 6), .int .i64 (ys 7), .int .i64 (yr 0), .int .i64 (yr 1), .int .i64 (yr 2), .int .i64 (yr 3), .int .i64 (yr 4), .int .i64 (yr 5), .int .i64 (yr 6), .int .i64 (yr 7), .int .i64 (yr 8), .int .i64 (yr 9), .int .i64 (yr 10), .int .i64 (yr 11), .int .i64 (yr 12), .int .i64 (yr 13), .int .i64 (yr 14), .int .i64 (yr 15)] 32) := ⟨_, rfl⟩
  have hB2 : Below w.heap.size w W2 := by rw [hW2]; exact belC (Below.refl _ _)
  have c0 : W2.cell? ⟨w.heap.size, 0, none⟩ = some (.int .i64 xn) := by rw [hW2]; go_simp
  have c1 : W2.cell? ⟨w.heap.size, 1, none⟩ = some (.slice xia xil xic) := by rw [hW2]; go_simp
  have c2 : W2.cell? ⟨w.heap.size, 2, none⟩ = some (.int .i64 xm) := by rw [hW2]; go_simp
  have c3 : W2.cell? ⟨w.heap.size, 3, none⟩ = some (.slice xna xnl xnc) := by rw [hW2]; go_simp
  have c4 : W2.cell? ⟨w.heap.size, 4, none⟩ = some (.slice xha xhl xhc) := by rw [hW2]; go_simp
  have c5 : W2.cell? ⟨w.heap.size, 5, none⟩ = some (.int .i64 (xl 0)) := by rw [hW2]; go_simp
  have c6 : W2.cell? ⟨w.heap.size, 6, none⟩ = some (.int .i64 (xl 1)) := by rw [hW2]; go_simp
  have c7 : W2.cell? ⟨w.heap.size, 7, none⟩ = some (.int .i64 (xl 2)) := by rw [hW2]; go_simp
  have c8 : W2.cell? ⟨w.heap.size, 8, none⟩ = some (.int .i64 (xl 3)) := by rw [hW2]; go_simp
  have c9 : W2.cell? ⟨w.heap.size, 9, none⟩ = some (.int .i64 (xl 4)) := by rw [hW2]; go_simp
  have c10 : W2.cell? ⟨w.heap.size, 10, none⟩ = some (.int .i64 (xl 5)) := by rw [hW2]; go_simp
  have c11 : W2.cell? ⟨w.heap.size, 11, none⟩ = some (.int .i64 (xl 6)) := by rw [hW2]; go_simp
  have c12 : W2.cell? ⟨w.heap.size, 12, none⟩ = some (.int .i64 (xl 7)) := by rw [hW2]; go_simp
  have c13 : W2.cell? ⟨w.heap.size, 13, none⟩ = some (.int .i64 (xs 0)) := by rw [hW2]; go_simp
  have c14 : W2.cell? ⟨w.heap.size, 14, none⟩ = some (.int .i64 (xs 1)) := by rw [hW2]; go_simp
  have c15 : W2.cell? ⟨w.heap.size, 15, none⟩ = some (.int .i64 (xs 2)) := by rw [hW2]; go_simp
  have c16 : W2.cell? ⟨w.heap.size, 16, none⟩ = some (.int .i64 (xs 3)) := by rw [hW2]; go_simp
  have c17 : W2.cell? ⟨w.heap.size, 17, none⟩ = some (.int .i64 (xs 4)) := by rw [hW2]; go_simp
  have c18 : W2.cell? ⟨w.heap.size, 18, none⟩ = some (.int .i64 (xs 5)) := by rw [hW2]; go_simp
  have c19 : W2.cell? ⟨w.heap.size, 19, none⟩ = some (.int .i64 (xs 6)) := by rw [hW2]; go_simp
  have c20 : W2.cell? ⟨w.heap.size, 20, none⟩ = some (.int .i64 (xs 7)) := by rw [hW2]; go_simp
  have c21 : W2.cell? ⟨w.heap.size, 21, none⟩ = some (.int .i64 (xr 0)) := by rw [hW2]; go_simp
  have c22 : W2.cell? ⟨w.heap.size, 22, none⟩ = some (.int .i64 (xr 1)) := by rw [hW2]; go_simp
  have c23 : W2.cell? ⟨w.heap.size, 23, none⟩ = some (.int .i64 (xr 2)) := by rw [hW2]; go_simp
  have c24 : W2.cell? ⟨w.heap.size, 24, none⟩ = some (.int .i64 (xr 3)) := by rw [hW2]; go_simp
  have c25 : W2.cell? ⟨w.heap.size, 25, none⟩ = some (.int .i64 (xr 4)) := by rw [hW2]; go_simp
  have c26 : W2.cell? ⟨w.heap.size, 26, none⟩ = some (.int .i64 (xr 5)) := by rw [hW2]; go_simp
  have c27 : W2.cell? ⟨w.heap.size, 27, none⟩ = some (.int .i64 (xr 6)) := by rw [hW2]; go_simp
  have c28 : W2.cell? ⟨w.heap.size, 28, none⟩ = some (.int .i64 (xr 7)) := by rw [hW2]; go_simp
  have c29 : W2.cell? ⟨w.heap.size, 29, none⟩ = some (.int .i64 (xr 8)) := by rw [hW2]; go_simp
  have c30 : W2.cell? ⟨w.heap.size, 30, none⟩ = some (.int .i64 (xr 9)) := by rw [hW2]; go_simp
  have c31 : W2.cell? ⟨w.heap.size, 31, none⟩ = some (.int .i64 (xr 10)) := by rw [hW2]; go_simp
  have c32 : W2.cell? ⟨w.heap.size, 32, none⟩ = some (.int .i64 (xr 11)) := by rw [hW2]; go_simp
  have c33 : W2.cell? ⟨w.heap.size, 33, none⟩ = some (.int .i64 (xr 12)) := by rw [hW2]; go_simp
  have c34 : W2.cell? ⟨w.heap.size, 34, none⟩ = some (.int .i64 (xr 13)) := by rw [hW2]; go_simp
  have c35 : W2.cell? ⟨w.heap.size, 35, none⟩ = some (.int .i64 (xr 14)) := by rw [hW2]; go_simp
  have c36 : W2.cell? ⟨w.heap.size, 36, none⟩ = some (.int .i64 (xr 15)) := by rw [hW2]; go_simp
  have d0 : W2.cell? ⟨w.heap.size + 1, 0, none⟩ = some (.int .i64 yn) := by rw [hW2]; go_simp
  have d1 : W2.cell? ⟨w.heap.size + 1, 1, none⟩ = some (.slice yia yil yic) := by rw [hW2]; go_simp
  have d2 : W2.cell? ⟨w.heap.size + 1, 2, none⟩ = some (.int .i64 ym) := by rw [hW2]; go_simp
  have d3 : W2.cell? ⟨w.heap.size + 1, 3, none⟩ = some (.slice yna ynl ync) := by rw [hW2]; go_simp
  have d4 : W2.cell? ⟨w.heap.size + 1, 4, none⟩ = some (.slice yha yhl yhc) := by rw [hW2]; go_simp
  have d5 : W2.cell? ⟨w.heap.size + 1, 5, none⟩ = some (.int .i64 (yl 0)) := by rw [hW2]; go_simp
  have d6 : W2.cell? ⟨w.heap.size + 1, 6, none⟩ = some (.int .i64 (yl 1)) := by rw [hW2]; go_simp
  have d7 : W2.cell? ⟨w.heap.size + 1, 7, none⟩ = some (.int .i64 (yl 2)) := by rw [hW2]; go_simp
  have d8 : W2.cell? ⟨w.heap.size + 1, 8, none⟩ = some (.int .i64 (yl 3)) := by rw [hW2]; go_simp
  have d9 : W2.cell? ⟨w.heap.size + 1, 9, none⟩ = some (.int .i64 (yl 4)) := by rw [hW2]; go_simp
  have d10 : W2.cell? ⟨w.heap.size + 1, 10, none⟩ = some (.int .i64 (yl 5)) := by rw [hW2]; go_simp
  have d11 : W2.cell? ⟨w.heap.size + 1, 11, none⟩ = some (.int .i64 (yl 6)) := by rw [hW2]; go_simp
  have d12 : W2.cell? ⟨w.heap.size + 1, 12, none⟩ = some (.int .i64 (yl 7)) := by rw [hW2]; go_simp
  have d13 : W2.cell? ⟨w.heap.size + 1, 13, none⟩ = some (.int .i64 (ys 0)) := by rw [hW2]; go_simp
  have d14 : W2.cell? ⟨w.heap.size + 1, 14, none⟩ = some (.int .i64 (ys 1)) := by rw [hW2]; go_simp
  have d15 : W2.cell? ⟨w.heap.size + 1, 15, none⟩ = some (.int .i64 (ys 2)) := by rw [hW2]; go_simp
  have d16 : W2.cell? ⟨w.heap.size + 1, 16, none⟩ = some (.int .i64 (ys 3)) := by rw [hW2]; go_simp
  have d17 : W2.cell? ⟨w.heap.size + 1, 17, none⟩ = some (.int .i64 (ys 4)) := by rw [hW2]; go_simp
  have d18 : W2.cell? ⟨w.heap.size + 1, 18, none⟩ = some (.int .i64 (ys 5)) := by rw [hW2]; go_simp
  have d19 : W2.cell? ⟨w.heap.size + 1, 19, none⟩ = some (.int .i64 (ys 6)) := by rw [hW2]; go_simp
  have d20 : W2.cell? ⟨w.heap.size + 1, 20, none⟩ = some (.int .i64 (ys 7)) := by rw [hW2]; go_simp
  have d21 : W2.cell? ⟨w.heap.size + 1, 21, none⟩ = some (.int .i64 (yr 0)) := by rw [hW2]; go_simp
  have d22 : W2.cell? ⟨w.heap.size + 1, 22, none⟩ = some (.int .i64 (yr 1)) := by rw [hW2]; go_simp
  have d23 : W2.cell? ⟨w.heap.size + 1, 23, none⟩ = some (.int .i64 (yr 2)) := by rw [hW2]; go_simp
  have d24 : W2.cell? ⟨w.heap.size + 1, 24, none⟩ = some (.int .i64 (yr 3)) := by rw [hW2]; go_simp
  have d25 : W2.cell? ⟨w.heap.size + 1, 25, none⟩ = some (.int .i64 (yr 4)) := by rw [hW2]; go_simp
  have d26 : W2.cell? ⟨w.heap.size + 1, 26, none⟩ = some (.int .i64 (yr 5)) := by rw [hW2]; go_simp
  have d27 : W2.cell? ⟨w.heap.size + 1, 27, none⟩ = some (.int .i64 (yr 6)) := by rw [hW2]; go_simp
  have d28 : W2.cell? ⟨w.heap.size + 1, 28, none⟩ = some (.int .i64 (yr 7)) := by rw [hW2]; go_simp
  have d29 : W2.cell? ⟨w.heap.size + 1, 29, none⟩ = some (.int .i64 (yr 8)) := by rw [hW2]; go_simp
  have d30 : W2.cell? ⟨w.heap.size + 1, 30, none⟩ = some (.int .i64 (yr 9)) := by rw [hW2]; go_simp
  have d31 : W2.cell? ⟨w.heap.size + 1, 31, none⟩ = some (.int .i64 (yr 10)) := by rw [hW2]; go_simp
  have d32 : W2.cell? ⟨w.heap.size + 1, 32, none⟩ = some (.int .i64 (yr 11)) := by rw [hW2]; go_simp
  have d33 : W2.cell? ⟨w.heap.size + 1, 33, none⟩ = some (.int .i64 (yr 12)) := by rw [hW2]; go_simp
  have d34 : W2.cell? ⟨w.heap.size + 1, 34, none⟩ = some (.int .i64 (yr 13)) := by rw [hW2]; go_simp
  have d35 : W2.cell? ⟨w.heap.size + 1, 35, none⟩ = some (.int .i64 (yr 14)) := by rw [hW2]; go_simp
  have d36 : W2.cell? ⟨w.heap.size + 1, 36, none⟩ = some (.int .i64 (yr 15)) := by rw [hW2]; go_simp
  have hcl := cell_lt c0
  have hdl := cell_lt d0
  have HZ : Hid (∀ W, Below W2.heap.size W2 W → W.cell? ⟨w.heap.size, 0, none⟩ = some (.int .i64 xn) ∧ W.cell? ⟨w.heap.size, 1, none⟩ = some (.slice xia xil xic) ∧ W.cell? ⟨w.heap.size, 2, none⟩ = some (.int .i64 xm) ∧ W.cell? ⟨w.heap.size, 3, none⟩ = some (.slice xna xnl xnc) ∧ W.cell? ⟨w.heap.size, 4, none⟩ = some (.slice xha xhl xhc) ∧ W.cell? ⟨w.heap.size, 5, none⟩ = some (.int .i64 (xl 0)) ∧ W.cell? ⟨w.heap.size, 6, none⟩ = some (.int .i64 (xl 1)) ∧ W.cell? ⟨w.heap.size, 7, none⟩ = some (.int .i64 (xl 2)) ∧ W.cell? ⟨w.heap.size, 8, none⟩ = some (.int .i64 (xl 3)) ∧ W.cell? ⟨w.heap.size, 9, none⟩ = some (.int .i64 (xl 4)) ∧ W.cell? ⟨w.heap.size, 10, none⟩ = some (.int .i64 (xl 5)) ∧ W.cell? ⟨w.heap.size, 11, none⟩ = some (.int .i64 (xl 6)) ∧ W.cell? ⟨w.heap.size, 12, none⟩ = some (.int .i64 (xl 7)) ∧ W.cell? ⟨w.heap.size, 13, none⟩ = some (.int .i64 (xs 0)) ∧ W.cell? ⟨w.heap.size, 14, none⟩ = some (.int .i64 (xs 1)) ∧ W.cell? ⟨w.heap.size, 15, none⟩ = some (.int .i64 (xs 2)) ∧ W.cell? ⟨w.heap.size, 16, none⟩ = some (.int .i64 (xs 3)) ∧ W.cell? ⟨w.heap.size, 17, none⟩ = some (.int .i64 (xs 4)) ∧ W.cell? ⟨w.heap.size, 18, none⟩ = some (.int .i64 (xs 5)) ∧ W.cell? ⟨w.heap.size, 19, none⟩ = some (.int .i64 (xs 6)) ∧ W.cell? ⟨w.heap.size, 20, none⟩ = some (.int .i64 (xs 7)) ∧ W.cell? ⟨w.heap.size, 21, none⟩ = some (.int .i64 (xr 0)) ∧ W.cell? ⟨w.heap.size, 22, none⟩ = some (.int .i64 (xr 1)) ∧ W.cell? ⟨w.heap.size, 23, none⟩ = some (.int .i64 (xr 2)) ∧ W.cell? ⟨w.heap.size, 24, none⟩ = some (.int .i64 (xr 3)) ∧ W.cell? ⟨w.heap.size, 25, none⟩ = some (.int .i64 (xr 4)) ∧ W.cell? ⟨w.heap.size, 26, none⟩ = some (.int .i64 (xr 5)) ∧ W.cell? ⟨w.heap.size, 27, none⟩ = some (.int .i64 (xr 6)) ∧ W.cell? ⟨w.heap.size, 28, none⟩ = some (.int .i64 (xr 7)) ∧ W.cell? ⟨w.heap.size, 29, none⟩ = some (.int .i64 (xr 8)) ∧ W.cell? ⟨w.heap.size, 30, none⟩ = some (.int .i64 (xr 9)) ∧ W.cell? ⟨w.heap.size, 31, none⟩ = some (.int .i64 (xr 10)) ∧ W.cell? ⟨w.heap.size, 32, none⟩ = some (.int .i64 (xr 11)) ∧ W.cell? ⟨w.heap.size, 33, none⟩ = some (.int .i64 (xr 12)) ∧ W.cell? ⟨w.heap.size, 34, none⟩ = some (.int .i64 (xr 13)) ∧ W.cell? ⟨w.heap.size, 35, none⟩ = some (.int .i64 (xr 14)) ∧ W.cell? ⟨w.heap.size, 36, none⟩ = some (.int .i64 (xr 15)) ∧ W.cell? ⟨w.heap.size + 1, 0, none⟩ = some (.int .i64 yn) ∧ W.cell? ⟨w.heap.size + 1, 1, none⟩ = some (.slice yia yil yic) ∧ W.cell? ⟨w.heap.size + 1, 2, none⟩ = some (.int .i64 ym) ∧ W.cell? ⟨w.heap.size + 1, 3, none⟩ = some (.slice yna ynl ync) ∧ W.cell? ⟨w.heap.size + 1, 4, none⟩ = some (.slice yha yhl yhc) ∧ W.cell? ⟨w.heap.size + 1, 5, none⟩ = some (.int .i64 (yl 0)) ∧ W.cell? ⟨w.heap.size + 1, 6, none⟩ = some (.int .i64 (yl 1)) ∧ W.cell? ⟨w.heap.size + 1, 7, none⟩ = some (.int .i64 (yl 2)) ∧ W.cell? ⟨w.heap.size + 1, 8, none⟩ = some (.int .i64 (yl 3)) ∧ W.cell? ⟨w.heap.size + 1, 9, none⟩ = some (.int .i64 (yl 4)) ∧ W.cell? ⟨w.heap.size + 1, 10, none⟩ = some (.int .i64 (yl 5)) ∧ W.cell? ⟨w.heap.size + 1, 11, none⟩ = some (.int .i64 (yl 6)) ∧ W.cell? ⟨w.heap.size + 1, 12, none⟩ = some (.int .i64 (yl 7)) ∧ W.cell? ⟨w.heap.size + 1, 13, none⟩ = some (.int .i64 (ys 0)) ∧ W.cell? ⟨w.heap.size + 1, 14, none⟩ = some (.int .i64 (ys 1)) ∧ W.cell? ⟨w.heap.size + 1, 15, none⟩ = some (.int .i64 (ys 2)) ∧ W.cell? ⟨w.heap.size + 1, 16, none⟩ = some (.int .i64 (ys 3)) ∧ W.cell? ⟨w.heap.size + 1, 17, none⟩ = some (.int .i64 (ys 4)) ∧ W.cell? ⟨w.heap.size + 1, 18, none⟩ = some (.int .i64 (ys 5)) ∧ W.cell? ⟨w.heap.size + 1, 19, none⟩ = some (.int .i64 (ys 6)) ∧ W.cell? ⟨w.heap.size + 1, 20, none⟩ = some (.int .i64 (ys 7)) ∧ W.cell? ⟨w.heap.size + 1, 21, none⟩ = some (.int .i64 (yr 0)) ∧ W.cell? ⟨w.heap.size + 1, 22, none⟩ = some (.int .i64 (yr 1)) ∧ W.cell? ⟨w.heap.size + 1, 23, none⟩ = some (.int .i64 (yr 2)) ∧ W.cell? ⟨w.heap.size + 1, 24, none⟩ = some (.int .i64 (yr 3)) ∧ W.cell? ⟨w.heap.size + 1, 25, none⟩ = some (.int .i64 (yr 4)) ∧ W.cell? ⟨w.heap.size + 1, 26, none⟩ = some (.int .i64 (yr 5)) ∧ W.cell? ⟨w.heap.size + 1, 27, none⟩ = some (.int .i64 (yr 6)) ∧ W.cell? ⟨w.heap.size + 1, 28, none⟩ = some (.int .i64 (yr 7)) ∧ W.cell? ⟨w.heap.size + 1, 29, none⟩ = some (.int .i64 (yr 8)) ∧ W.cell? ⟨w.heap.size + 1, 30, none⟩ = some (.int .i64 (yr 9)) ∧ W.cell? ⟨w.heap.size + 1, 31, none⟩ = some (.int .i64 (yr 10)) ∧ W.cell? ⟨w.heap.size + 1, 32, none⟩ = some (.int .i64 (yr 11)) ∧ W.cell? ⟨w.heap.size + 1, 33, none⟩ = some (.int .i64 (yr 12)) ∧ W.cell? ⟨w.heap.size + 1, 34, none⟩ = some (.int .i64 (yr 13)) ∧ W.cell? ⟨w.heap.size + 1, 35, none⟩ = some (.int .i64 (yr 14)) ∧ W.cell? ⟨w.heap.size + 1, 36, none⟩ = some (.int .i64 (yr 15))) := Lib.hid (fun W hB => ⟨below_at hB c0 hcl, below_at hB c1 hcl, below_at hB c2 hcl, below_at hB c3 hcl, below_at hB c4 hcl, below_at hB c5 hcl, below_at hB c6 hcl, below_at hB c7 hcl, below_at hB c8 hcl, below_at hB c9 hcl, below_at hB c10 hcl, below_at hB c11 hcl, below_at hB c12 hcl, below_at hB c13 hcl, below_at hB c14 hcl, below_at hB c15 hcl, below_at hB c16 hcl, below_at hB c17 hcl, below_at hB c18 hcl, below_at hB c19 hcl, below_at hB c20 hcl, below_at hB c21 hcl, below_at hB c22 hcl, below_at hB c23 hcl, below_at hB c24 hcl, below_at hB c25 hcl, below_at hB c26 hcl, below_at hB c27 hcl, below_at hB c28 hcl, below_at hB c29 hcl, below_at hB c30 hcl, below_at hB c31 hcl, below_at hB c32 hcl, below_at hB c33 hcl, below_at hB c34 hcl, below_at hB c35 hcl, below_at hB c36 hcl, below_at hB d0 hdl, below_at hB d1 hdl, below_at hB d2 hdl, below_at hB d3 hdl, below_at hB d4 hdl, below_at hB d5 hdl, below_at hB d6 hdl, below_at hB d7 hdl, below_at hB d8 hdl, below_at hB d9 hdl, below_at hB d10 hdl, below_at hB d11 hdl, below_at hB d12 hdl, below_at hB d13 hdl, below_at hB d14 hdl, below_at hB d15 hdl, below_at hB d16 hdl, below_at hB d17 hdl, below_at hB d18 hdl, below_at hB d19 hdl, below_at hB d20 hdl, below_at hB d21 hdl, below_at hB d22 hdl, below_at hB d23 hdl, below_at hB d24 hdl, below_at hB d25 hdl, below_at hB d26 hdl, below_at hB d27 hdl, below_at hB d28 hdl, below_at hB d29 hdl, below_at hB d30 hdl, below_at hB d31 hdl, below_at hB d32 hdl, below_at hB d33 hdl, below_at hB d34 hdl, below_at hB d35 hdl, below_at hB d36 hdl⟩)
  have HW2 := Lib.hid hW2
  have HB2 := Lib.hid hB2
  have hin := HI.out W2 hB2
  clear HI hW2 hB2
  go_enter Tryz.func8, Tryz.ntmps8
  go_wp2_with fail
  rw [← HW2.out]
  refine hin.mono ?_
  clear hin c0 c1 c2 c3 c4 c5 c6 c7 c8 c9 c10 c11 c12 c13 c14 c15 c16 c17 c18 c19 c20 c21 c22 c23 c24 c25 c26 c27 c28 c29 c30 c31 c32 c33 c34 c35 c36 d0 d1 d2 d3 d4 d5 d6 d7 d8 d9 d10 d11 d12 d13 d14 d15 d16 d17 d18 d19 d20 d21 d22 d23 d24 d25 d26 d27 d28 d29 d30 d31 d32 d33 d34 d35 d36 hcl hdl
  rintro e w3 ⟨rfl, hB3⟩
  have HV3 := Lib.hid hB3
  have HB3 := Lib.hid (HB2.out.trans (hB3.mono HB2.out.size))
  clear hB3
  obtain ⟨c0, c1, c2, c3, c4, c5, c6, c7, c8, c9, c10, c11, c12, c13, c14, c15, c16, c17, c18, c19, c20, c21, c22, c23, c24, c25, c26, c27, c28, c29, c30, c31, c32, c33, c34, c35, c36, d0, d1, d2, d3, d4, d5, d6, d7, d8, d9, d10, d11, d12, d13, d14, d15, d16, d17, d18, d19, d20, d21, d22, d23, d24, d25, d26, d27, d28, d29, d30, d31, d32, d33, d34, d35, d36⟩ := HZ.out w3 (HV3.out)
  have hcl := cell_lt c0
  have hdl := cell_lt d0
  cases qi
  · obtain rfl : res = false := by rw [HRES.out]; simp
    clear HRES
    go_wp2_with fail
    go_ret
    exact ⟨rfl, HB3.out⟩
  by_cases e1 : xn = yn
  rotate_left 1
  · have e1' : (xn == yn) = false := by simpa using e1
    obtain rfl : res = false := by rw [HRES.out]; simp [e1]
    clear e1 HRES
    go_wp2_with fail
    go_ret
    exact ⟨rfl, HB3.out⟩
  subst e1
  by_cases e2 : xm = ym
  rotate_left 1
  · have e2' : (xm == ym) = false := by simpa using e2
    obtain rfl : res = false := by rw [HRES.out]; simp [e2]
    clear e2 HRES
    go_wp2_with fail
    go_ret
    exact ⟨rfl, HB3.out⟩
  subst e2
  have hnm := HN.out w3 HB3.out
  clear HN
  go_wp2_with fail
  refine hnm.mono ?_
  clear hnm c0 c1 c2 c3 c4 c5 c6 c7 c8 c9 c10 c11 c12 c13 c14 c15 c16 c17 c18 c19 c20 c21 c22 c23 c24 c25 c26 c27 c28 c29 c30 c31 c32 c33 c34 c35 c36 d0 d1 d2 d3 d4 d5 d6 d7 d8 d9 d10 d11 d12 d13 d14 d15 d16 d17 d18 d19 d20 d21 d22 d23 d24 d25 d26 d27 d28 d29 d30 d31 d32 d33 d34 d35 d36 hcl hdl
  rintro e w4 ⟨rfl, hB4⟩
  have HV4 := Lib.hid (HV3.out.trans (hB4.mono HV3.out.size))
  have HB4 := Lib.hid (HB3.out.trans (hB4.mono HB3.out.size))
  clear hB4
  obtain ⟨c0, c1, c2, c3, c4, c5, c6, c7, c8, c9, c10, c11, c12, c13, c14, c15, c16, c17, c18, c19, c20, c21, c22, c23, c24, c25, c26, c27, c28, c29, c30, c31, c32, c33, c34, c35, c36, d0, d1, d2, d3, d4, d5, d6, d7, d8, d9, d10, d11, d12, d13, d14, d15, d16, d17, d18, d19, d20, d21, d22, d23, d24, d25, d26, d27, d28, d29, d30, d31, d32, d33, d34, d35, d36⟩ := HZ.out w4 (HV4.out)
  have hcl := cell_lt c0
  have hdl := cell_lt d0
  cases qn
  · obtain rfl : res = false := by rw [HRES.out]; simp
    clear HRES
    go_wp2_with fail
    go_ret
    exact ⟨rfl, HB4.out⟩
  have hhd := HH.out w4 HB4.out
  clear HH
  go_wp2_with fail
  refine hhd.mono ?_
  clear hhd c0 c1 c2 c3 c4 c5 c6 c7 c8 c9 c10 c11 c12 c13 c14 c15 c16 c17 c18 c19 c20 c21 c22 c23 c24 c25 c26 c27 c28 c29 c30 c31 c32 c33 c34 c35 c36 d0 d1 d2 d3 d4 d5 d6 d7 d8 d9 d10 d11 d12 d13 d14 d15 d16 d17 d18 d19 d20 d21 d22 d23 d24 d25 d26 d27 d28 d29 d30 d31 d32 d33 d34 d35 d36 hcl hdl
  rintro e w5 ⟨rfl, hB5⟩
  have HV5 := Lib.hid (HV4.out.trans (hB5.mono HV4.out.size))
  have HB5 := Lib.hid (HB4.out.trans (hB5.mono HB4.out.size))
  clear hB5
  obtain ⟨c0, c1, c2, c3, c4, c5, c6, c7, c8, c9, c10, c11, c12, c13, c14, c15, c16, c17, c18, c19, c20, c21, c22, c23, c24, c25, c26, c27, c28, c29, c30, c31, c32, c33, c34, c35, c36, d0, d1, d2, d3, d4, d5, d6, d7, d8, d9, d10, d11, d12, d13, d14, d15, d16, d17, d18, d19, d20, d21, d22, d23, d24, d25, d26, d27, d28, d29, d30, d31, d32, d33, d34, d35, d36⟩ := HZ.out w5 (HV5.out)
  have hcl := cell_lt c0
  have hdl := cell_lt d0
  cases qh
  · obtain rfl : res = false := by rw [HRES.out]; simp
    clear HRES
    go_wp2_with fail
    go_ret
    exact ⟨rfl, HB5.out⟩
  cases ql
  · obtain rfl : res = false := by rw [HRES.out]; simp
    clear HRES
    go_wp2_with fail
    go_ret
    exact ⟨rfl, HB5.out⟩
  cases qs
  · obtain rfl : res = false := by rw [HRES.out]; simp
    clear HRES
    go_wp2_with fail
    go_ret
    exact ⟨rfl, HB5.out⟩
  obtain rfl : res = qr := by rw [HRES.out]; simp
  clear HRES
  go_wp2_with fail
  go_ret
  exact ⟨rfl, HB5.out⟩
end Go.Proofs.YtmnkackkeppheaaGreat
