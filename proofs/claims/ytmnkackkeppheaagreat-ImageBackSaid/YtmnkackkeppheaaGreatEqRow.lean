/- slices.Equal at moves, parts, names' entries, handles -/
import Derived.Test.YtmnkackkeppheaaGreatPkOpM
import Derived.Test.YtmnkackkeppheaaGreatPkHdl
import Derived.Laws.StructEq
namespace Esch
open Go Go.RowKit
abbrev EqK := Int × Nm × Int
def enC (e : EqK) : List Value := [.int .i64 e.1, .string (bs e.2.1), .int .i64 e.2.2]
theorem enC_len (e : EqK) : (enC e).length = 3 := rfl
theorem hdC_len (e : Hd) : (hdC e).length = 3 := rfl
def EqRel (α : Type) (n : Nat) (x y : List α) (w : World) (g : Nat) (v : Value) (wr : World) : Prop := ∃ i : Nat, g = n - i ∧ i ≤ n ∧ v = .int .i64 i ∧ x.take i = y.take i ∧ Below w.heap.size w wr
theorem bs_eq_iff (p q : Nm) : ((bs p).toList == (bs q).toList) = decide (p = q) := by
  rw [ByteArray.toList_eq, ByteArray.toList_eq]
  simp only [bs]
  by_cases h : p = q
  · subst h; simp
  · rw [decide_eq_false h]; simpa using h
end Esch
namespace Go.Proofs.YtmnkackkeppheaaGreat
open Go.RowKit Esch

theorem neqPt (u v : PtS) (w : World) : (binOp .neq 94 (.agg (ptC u).toArray) (.agg (ptC v).toArray)).run Tryz.prog w = .ok (.bool (!decide (u = v))) w := by
  obtain ⟨a, b, c, d⟩ := u
  obtain ⟨a', b', c', d'⟩ := v
  simp only [ptC]
  have u3 := Tryz.underlying3
  have a3 := Tryz.isAgg3
  have z3 := Tryz.sizeOf3
  have u9 := Tryz.underlying9
  have a9 := Tryz.isAgg9
  have z9 := Tryz.sizeOf9
  have hS : Tryz.prog.underlying 94 = some (.struct (Tryz.prog.fieldsOf 94)) := by kernel_rfl
  have hp : Tryz.prog.stoodInHeld 94 = false := by kernel_rfl
  rw [run_neq_struct, show (10000 : Nat) = 9999 + 1 from rfl, run_equalIn_agg w 9999 94 _ _ hS hp]
  simp only [Program.fieldsOf, Tryz.underlying94]
  go_simp
  by_cases h0 : a = a' <;> by_cases h1 : b = b' <;> by_cases h2 : c = c' <;> by_cases h3 : d = d' <;> simp [h0, h1, h2, h3]
set_option maxRecDepth 100000 in
set_option maxHeartbeats 4000000 in
theorem eqPt_any (w : World) (S T : Nat → Prop) (a b : Option Addr) (c d : Nat) (x y : List PtS) (hx : RwAt w S 4 x.length a (x.flatMap ptC)) (hy : RwAt w T 4 y.length b (y.flatMap ptC)) (h8 : x.length ≤ 100000) :
    Calls Tryz.prog 30 #[.slice a x.length c, .slice b y.length d] w fun e w' => e = .returned (.bool (decide (x = y))) ∧ Below w.heap.size w w' := by
  by_cases hl : x.length = y.length
  rotate_left 1
  · have hl2 : ((x.length : Int) != y.length) = true := by simp only [bne_iff_ne, ne_eq]; omega
    rw [decide_eq_false (fun e => hl (by rw [e]))]
    go_enter Tryz.func30, Tryz.ntmps30
    go_wp2_with fail
    go_ret
    exact ⟨rfl, Below.refl _ _⟩
  · have hl2 : ((x.length : Int) != y.length) = false := by simp only [bne_eq_false_iff_eq]; omega
    have HX := Lib.hid hx
    have HY := Lib.hid hy
    have HL := Lib.hid hl
    obtain ⟨n, hn⟩ : ∃ n, n = x.length := ⟨_, rfl⟩
    rw [← hl, ← hn]
    obtain ⟨dv, hdv⟩ : ∃ dv, dv = decide (x = y) := ⟨_, rfl⟩
    rw [← hdv]
    have HDV := Lib.hid hdv
    clear hdv
    have Hn := Lib.hid hn
    have hn8 : n ≤ 100000 := by omega
    clear hx hy hl hl2 h8 hn
    go_enter Tryz.func30, Tryz.ntmps30
    go_wp2_with fail
    go_loopg [13] n (fun g s5 wr => EqRel PtS n x y w g s5 wr)
    case atStart => exact ⟨0, rfl, Nat.zero_le _, rfl, rfl, Below.refl _ _⟩
    case round =>
      obtain ⟨i, rfl, hi, rfl, hte, hB⟩ := hrel
      have HT := Lib.hid hte
      have HB := Lib.hid hB
      clear hte hB
      by_cases hlt : i < n
      · have hix : i < x.length := by have := Hn.out; omega
        have hiy : i < y.length := by have := HL.out; omega
        obtain ⟨xb, xo, rfl, -, hxl, hxc⟩ := HX.out.elem ptC_len default hix
        obtain ⟨yb, yo, rfl, -, hyl, hyc⟩ := HY.out.elem ptC_len default hiy
        have htx := take_one x default hix
        have hty := take_one y default hiy
        have HTX := Lib.hid htx
        have HTY := Lib.hid hty
        generalize x.getD i default = u at *
        generalize y.getD i default = v at *
        have hne := fun W => neqPt u v W
        obtain ⟨q, hq⟩ : ∃ q, q = decide (u = v) := ⟨_, rfl⟩
        rw [← hq] at hne
        have HQ := Lib.hid hq
        clear hq
        have hgd := fun op a b W => run_eqGuard_agg (P := Tryz.prog) W op 94 a b (ptC u).toArray (ptC v).toArray (by kernel_rfl)
        obtain ⟨u0, u1, u2, u3⟩ := u
        obtain ⟨v0, v1, v2, v3⟩ := v
        simp only [ptC] at hne hgd
        have f0 : wr.cell? ⟨xb, xo + i * 4, none⟩ = some (.int .i64 u0) := below_at HB.out (hxc 0 (by decide)) hxl
        have f1 : wr.cell? ⟨xb, xo + i * 4 + 1, none⟩ = some (.int .i64 u1) := below_at HB.out (hxc 1 (by decide)) hxl
        have f2 : wr.cell? ⟨xb, xo + i * 4 + 2, none⟩ = some (.int .i64 u2) := below_at HB.out (hxc 2 (by decide)) hxl
        have f3 : wr.cell? ⟨xb, xo + i * 4 + 3, none⟩ = some (.int .i64 u3) := below_at HB.out (hxc 3 (by decide)) hxl
        have g0 : wr.cell? ⟨yb, yo + i * 4, none⟩ = some (.int .i64 v0) := below_at HB.out (hyc 0 (by decide)) hyl
        have g1 : wr.cell? ⟨yb, yo + i * 4 + 1, none⟩ = some (.int .i64 v1) := below_at HB.out (hyc 1 (by decide)) hyl
        have g2 : wr.cell? ⟨yb, yo + i * 4 + 2, none⟩ = some (.int .i64 v2) := below_at HB.out (hyc 2 (by decide)) hyl
        have g3 : wr.cell? ⟨yb, yo + i * 4 + 3, none⟩ = some (.int .i64 v3) := below_at HB.out (hyc 3 (by decide)) hyl
        have hxl' := cell_lt f0
        have hzB := HB.out.size
        have hyl' := cell_lt g0
        have hil2 : (0 : Int) ≤ i ∧ (i : Int) < n := by omega
        have hi1 : i + 1 ≤ n := hlt
        have hms : n - (i + 1) < n - i := by omega
        have hwr1 := Lib.hid (show wrap64 ((i : Int) + 1) = ((i + 1 : Nat) : Int) by unfold wrap64; omega)
        clear htx hty hxc hyc
        cases q
        · have hdv : dv = false := by
            rw [HDV.out]
            refine decide_eq_false (fun e => ?_)
            subst e
            have h1 := HTX.out
            rw [HTY.out] at h1
            have h2 := HQ.out
            simp only [List.append_cancel_left_eq, List.cons.injEq, and_true] at h1
            rw [h1] at h2
            simp at h2
          subst hdv
          go_wp2_with fail
          go_region
          all_goals
            go_wp2_with fail
            go_ret
            exact ⟨rfl, by exact belC HB.out⟩
        · go_wp2_with fail
          go_region
          all_goals
            go_wp2_with fail
            go_roundg (n - (i + 1))
            case measure => exact hms
            case rel => exact ⟨i + 1, rfl, hi1, by first | rfl | rw [hwr1.out], by rw [HTX.out, HTY.out, HT.out, of_decide_eq_true HQ.out.symm], by exact belC HB.out⟩
      · obtain rfl : i = n := by omega
        have hxy : x = y := by
          have h1 := HT.out
          rw [List.take_of_length_le (by have := Hn.out; omega), List.take_of_length_le (by have := Hn.out; have := HL.out; omega)] at h1
          exact h1
        have hdv : dv = true := by rw [HDV.out]; exact decide_eq_true hxy
        subst hdv
        clear hlt
        go_wp2_with fail
        go_ret
        exact ⟨rfl, HB.out⟩
theorem neqEn (u v : EqK) (w : World) : (binOp .neq 106 (.agg (enC u).toArray) (.agg (enC v).toArray)).run Tryz.prog w = .ok (.bool (!decide (u = v))) w := by
  obtain ⟨a, b, c⟩ := u
  obtain ⟨a', b', c'⟩ := v
  simp only [enC]
  have u3 := Tryz.underlying3
  have a3 := Tryz.isAgg3
  have z3 := Tryz.sizeOf3
  have u9 := Tryz.underlying9
  have a9 := Tryz.isAgg9
  have z9 := Tryz.sizeOf9
  have hS : Tryz.prog.underlying 106 = some (.struct (Tryz.prog.fieldsOf 106)) := by kernel_rfl
  have hp : Tryz.prog.stoodInHeld 106 = false := by kernel_rfl
  rw [run_neq_struct, show (10000 : Nat) = 9999 + 1 from rfl, run_equalIn_agg w 9999 106 _ _ hS hp]
  simp only [Program.fieldsOf, Tryz.underlying106]
  go_simp
  have hb : ((bs b).toList = (bs b').toList) ↔ b = b' := by rw [← beq_iff_eq (α := List UInt8), bs_eq_iff]; exact decide_eq_true_iff
  by_cases h0 : a = a' <;> by_cases h1 : b = b' <;> by_cases h2 : c = c' <;> simp [h0, h1, h2, hb]
set_option maxRecDepth 100000 in
set_option maxHeartbeats 4000000 in
theorem eqEn_any (w : World) (S T : Nat → Prop) (a b : Option Addr) (c d : Nat) (x y : List EqK) (hx : RwAt w S 3 x.length a (x.flatMap enC)) (hy : RwAt w T 3 y.length b (y.flatMap enC)) (h8 : x.length ≤ 100000) :
    Calls Tryz.prog 31 #[.slice a x.length c, .slice b y.length d] w fun e w' => e = .returned (.bool (decide (x = y))) ∧ Below w.heap.size w w' := by
  by_cases hl : x.length = y.length
  rotate_left 1
  · have hl2 : ((x.length : Int) != y.length) = true := by simp only [bne_iff_ne, ne_eq]; omega
    rw [decide_eq_false (fun e => hl (by rw [e]))]
    go_enter Tryz.func31, Tryz.ntmps31
    go_wp2_with fail
    go_ret
    exact ⟨rfl, Below.refl _ _⟩
  · have hl2 : ((x.length : Int) != y.length) = false := by simp only [bne_eq_false_iff_eq]; omega
    have HX := Lib.hid hx
    have HY := Lib.hid hy
    have HL := Lib.hid hl
    obtain ⟨n, hn⟩ : ∃ n, n = x.length := ⟨_, rfl⟩
    rw [← hl, ← hn]
    obtain ⟨dv, hdv⟩ : ∃ dv, dv = decide (x = y) := ⟨_, rfl⟩
    rw [← hdv]
    have HDV := Lib.hid hdv
    clear hdv
    have Hn := Lib.hid hn
    have hn8 : n ≤ 100000 := by omega
    clear hx hy hl hl2 h8 hn
    go_enter Tryz.func31, Tryz.ntmps31
    go_wp2_with fail
    go_loopg [13] n (fun g s5 wr => EqRel EqK n x y w g s5 wr)
    case atStart => exact ⟨0, rfl, Nat.zero_le _, rfl, rfl, Below.refl _ _⟩
    case round =>
      obtain ⟨i, rfl, hi, rfl, hte, hB⟩ := hrel
      have HT := Lib.hid hte
      have HB := Lib.hid hB
      clear hte hB
      by_cases hlt : i < n
      · have hix : i < x.length := by have := Hn.out; omega
        have hiy : i < y.length := by have := HL.out; omega
        obtain ⟨xb, xo, rfl, -, hxl, hxc⟩ := HX.out.elem enC_len default hix
        obtain ⟨yb, yo, rfl, -, hyl, hyc⟩ := HY.out.elem enC_len default hiy
        have htx := take_one x default hix
        have hty := take_one y default hiy
        have HTX := Lib.hid htx
        have HTY := Lib.hid hty
        generalize x.getD i default = u at *
        generalize y.getD i default = v at *
        have hne := fun W => neqEn u v W
        obtain ⟨q, hq⟩ : ∃ q, q = decide (u = v) := ⟨_, rfl⟩
        rw [← hq] at hne
        have HQ := Lib.hid hq
        clear hq
        have hgd := fun op a b W => run_eqGuard_agg (P := Tryz.prog) W op 106 a b (enC u).toArray (enC v).toArray (by kernel_rfl)
        obtain ⟨u0, u1, u2⟩ := u
        obtain ⟨v0, v1, v2⟩ := v
        simp only [enC] at hne hgd
        have f0 : wr.cell? ⟨xb, xo + i * 3, none⟩ = some (.int .i64 u0) := below_at HB.out (hxc 0 (by decide)) hxl
        have f1 : wr.cell? ⟨xb, xo + i * 3 + 1, none⟩ = some (.string (bs u1)) := below_at HB.out (hxc 1 (by decide)) hxl
        have f2 : wr.cell? ⟨xb, xo + i * 3 + 2, none⟩ = some (.int .i64 u2) := below_at HB.out (hxc 2 (by decide)) hxl
        have g0 : wr.cell? ⟨yb, yo + i * 3, none⟩ = some (.int .i64 v0) := below_at HB.out (hyc 0 (by decide)) hyl
        have g1 : wr.cell? ⟨yb, yo + i * 3 + 1, none⟩ = some (.string (bs v1)) := below_at HB.out (hyc 1 (by decide)) hyl
        have g2 : wr.cell? ⟨yb, yo + i * 3 + 2, none⟩ = some (.int .i64 v2) := below_at HB.out (hyc 2 (by decide)) hyl
        have hxl' := cell_lt f0
        have hzB := HB.out.size
        have hyl' := cell_lt g0
        have hil2 : (0 : Int) ≤ i ∧ (i : Int) < n := by omega
        have hi1 : i + 1 ≤ n := hlt
        have hms : n - (i + 1) < n - i := by omega
        have hwr1 := Lib.hid (show wrap64 ((i : Int) + 1) = ((i + 1 : Nat) : Int) by unfold wrap64; omega)
        clear htx hty hxc hyc
        cases q
        · have hdv : dv = false := by
            rw [HDV.out]
            refine decide_eq_false (fun e => ?_)
            subst e
            have h1 := HTX.out
            rw [HTY.out] at h1
            have h2 := HQ.out
            simp only [List.append_cancel_left_eq, List.cons.injEq, and_true] at h1
            rw [h1] at h2
            simp at h2
          subst hdv
          go_wp2_with fail
          go_region
          all_goals
            go_wp2_with fail
            go_ret
            exact ⟨rfl, by exact belC HB.out⟩
        · go_wp2_with fail
          go_region
          all_goals
            go_wp2_with fail
            go_roundg (n - (i + 1))
            case measure => exact hms
            case rel => exact ⟨i + 1, rfl, hi1, by first | rfl | rw [hwr1.out], by rw [HTX.out, HTY.out, HT.out, of_decide_eq_true HQ.out.symm], by exact belC HB.out⟩
      · obtain rfl : i = n := by omega
        have hxy : x = y := by
          have h1 := HT.out
          rw [List.take_of_length_le (by have := Hn.out; omega), List.take_of_length_le (by have := Hn.out; have := HL.out; omega)] at h1
          exact h1
        have hdv : dv = true := by rw [HDV.out]; exact decide_eq_true hxy
        subst hdv
        clear hlt
        go_wp2_with fail
        go_ret
        exact ⟨rfl, HB.out⟩
theorem neqHd (u v : Hd) (w : World) : (binOp .neq 108 (.agg (hdC u).toArray) (.agg (hdC v).toArray)).run Tryz.prog w = .ok (.bool (!decide (u = v))) w := by
  obtain ⟨⟨a, b⟩, c⟩ := u
  obtain ⟨⟨a', b'⟩, c'⟩ := v
  simp only [hdC]
  have u3 := Tryz.underlying3
  have a3 := Tryz.isAgg3
  have z3 := Tryz.sizeOf3
  have u9 := Tryz.underlying9
  have a9 := Tryz.isAgg9
  have z9 := Tryz.sizeOf9
  have hS : Tryz.prog.underlying 108 = some (.struct (Tryz.prog.fieldsOf 108)) := by kernel_rfl
  have hp : Tryz.prog.stoodInHeld 108 = false := by kernel_rfl
  rw [run_neq_struct, show (10000 : Nat) = 9999 + 1 from rfl, run_equalIn_agg w 9999 108 _ _ hS hp]
  simp only [Program.fieldsOf, Tryz.underlying108]
  go_simp
  by_cases h0 : a = a' <;> by_cases h1 : b = b' <;> by_cases h2 : c = c' <;> simp [h0, h1, h2]
set_option maxRecDepth 100000 in
set_option maxHeartbeats 4000000 in
theorem eqHd_any (w : World) (S T : Nat → Prop) (a b : Option Addr) (c d : Nat) (x y : List Hd) (hx : RwAt w S 3 x.length a (x.flatMap hdC)) (hy : RwAt w T 3 y.length b (y.flatMap hdC)) (h8 : x.length ≤ 100000) :
    Calls Tryz.prog 32 #[.slice a x.length c, .slice b y.length d] w fun e w' => e = .returned (.bool (decide (x = y))) ∧ Below w.heap.size w w' := by
  by_cases hl : x.length = y.length
  rotate_left 1
  · have hl2 : ((x.length : Int) != y.length) = true := by simp only [bne_iff_ne, ne_eq]; omega
    rw [decide_eq_false (fun e => hl (by rw [e]))]
    go_enter Tryz.func32, Tryz.ntmps32
    go_wp2_with fail
    go_ret
    exact ⟨rfl, Below.refl _ _⟩
  · have hl2 : ((x.length : Int) != y.length) = false := by simp only [bne_eq_false_iff_eq]; omega
    have HX := Lib.hid hx
    have HY := Lib.hid hy
    have HL := Lib.hid hl
    obtain ⟨n, hn⟩ : ∃ n, n = x.length := ⟨_, rfl⟩
    rw [← hl, ← hn]
    obtain ⟨dv, hdv⟩ : ∃ dv, dv = decide (x = y) := ⟨_, rfl⟩
    rw [← hdv]
    have HDV := Lib.hid hdv
    clear hdv
    have Hn := Lib.hid hn
    have hn8 : n ≤ 100000 := by omega
    clear hx hy hl hl2 h8 hn
    go_enter Tryz.func32, Tryz.ntmps32
    go_wp2_with fail
    go_loopg [13] n (fun g s5 wr => EqRel Hd n x y w g s5 wr)
    case atStart => exact ⟨0, rfl, Nat.zero_le _, rfl, rfl, Below.refl _ _⟩
    case round =>
      obtain ⟨i, rfl, hi, rfl, hte, hB⟩ := hrel
      have HT := Lib.hid hte
      have HB := Lib.hid hB
      clear hte hB
      by_cases hlt : i < n
      · have hix : i < x.length := by have := Hn.out; omega
        have hiy : i < y.length := by have := HL.out; omega
        obtain ⟨xb, xo, rfl, -, hxl, hxc⟩ := HX.out.elem hdC_len default hix
        obtain ⟨yb, yo, rfl, -, hyl, hyc⟩ := HY.out.elem hdC_len default hiy
        have htx := take_one x default hix
        have hty := take_one y default hiy
        have HTX := Lib.hid htx
        have HTY := Lib.hid hty
        generalize x.getD i default = u at *
        generalize y.getD i default = v at *
        have hne := fun W => neqHd u v W
        obtain ⟨q, hq⟩ : ∃ q, q = decide (u = v) := ⟨_, rfl⟩
        rw [← hq] at hne
        have HQ := Lib.hid hq
        clear hq
        have hgd := fun op a b W => run_eqGuard_agg (P := Tryz.prog) W op 108 a b (hdC u).toArray (hdC v).toArray (by kernel_rfl)
        obtain ⟨⟨u0, u1⟩, u2⟩ := u
        obtain ⟨⟨v0, v1⟩, v2⟩ := v
        simp only [hdC] at hne hgd
        have f0 : wr.cell? ⟨xb, xo + i * 3, none⟩ = some (.int .i64 u0) := below_at HB.out (hxc 0 (by decide)) hxl
        have f1 : wr.cell? ⟨xb, xo + i * 3 + 1, none⟩ = some (.int .i64 u1) := below_at HB.out (hxc 1 (by decide)) hxl
        have f2 : wr.cell? ⟨xb, xo + i * 3 + 2, none⟩ = some (.int .i64 u2) := below_at HB.out (hxc 2 (by decide)) hxl
        have g0 : wr.cell? ⟨yb, yo + i * 3, none⟩ = some (.int .i64 v0) := below_at HB.out (hyc 0 (by decide)) hyl
        have g1 : wr.cell? ⟨yb, yo + i * 3 + 1, none⟩ = some (.int .i64 v1) := below_at HB.out (hyc 1 (by decide)) hyl
        have g2 : wr.cell? ⟨yb, yo + i * 3 + 2, none⟩ = some (.int .i64 v2) := below_at HB.out (hyc 2 (by decide)) hyl
        have hxl' := cell_lt f0
        have hzB := HB.out.size
        have hyl' := cell_lt g0
        have hil2 : (0 : Int) ≤ i ∧ (i : Int) < n := by omega
        have hi1 : i + 1 ≤ n := hlt
        have hms : n - (i + 1) < n - i := by omega
        have hwr1 := Lib.hid (show wrap64 ((i : Int) + 1) = ((i + 1 : Nat) : Int) by unfold wrap64; omega)
        clear htx hty hxc hyc
        cases q
        · have hdv : dv = false := by
            rw [HDV.out]
            refine decide_eq_false (fun e => ?_)
            subst e
            have h1 := HTX.out
            rw [HTY.out] at h1
            have h2 := HQ.out
            simp only [List.append_cancel_left_eq, List.cons.injEq, and_true] at h1
            rw [h1] at h2
            simp at h2
          subst hdv
          go_wp2_with fail
          go_region
          all_goals
            go_wp2_with fail
            go_ret
            exact ⟨rfl, by exact belC HB.out⟩
        · go_wp2_with fail
          go_region
          all_goals
            go_wp2_with fail
            go_roundg (n - (i + 1))
            case measure => exact hms
            case rel => exact ⟨i + 1, rfl, hi1, by first | rfl | rw [hwr1.out], by rw [HTX.out, HTY.out, HT.out, of_decide_eq_true HQ.out.symm], by exact belC HB.out⟩
      · obtain rfl : i = n := by omega
        have hxy : x = y := by
          have h1 := HT.out
          rw [List.take_of_length_le (by have := Hn.out; omega), List.take_of_length_le (by have := Hn.out; have := HL.out; omega)] at h1
          exact h1
        have hdv : dv = true := by rw [HDV.out]; exact decide_eq_true hxy
        subst hdv
        clear hlt
        go_wp2_with fail
        go_ret
        exact ⟨rfl, HB.out⟩
end Go.Proofs.YtmnkackkeppheaaGreat
