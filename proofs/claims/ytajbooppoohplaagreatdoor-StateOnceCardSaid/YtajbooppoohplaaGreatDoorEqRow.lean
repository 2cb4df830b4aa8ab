/- slices.Equal at moves, parts, names' entries, handles -/
import Derived.Test.YtajbooppoohplaaGreatDoorMac
import Derived.Test.YtajbooppoohplaaGreatDoorPkOpM
import Derived.Test.YtajbooppoohplaaGreatDoorPkHdl
import Derived.Laws.StructEq
set_option maxRecDepth 100000
set_option maxHeartbeats 4000000
namespace Esch
open Go Go.RowKit
abbrev EqK := Int × Nm × Int
def enC (e : EqK) : List Value := [.int .i64 e.1, .string (bs e.2.1), .int .i64 e.2.2]
theorem enC_len (e : EqK) : (enC e).length = 3 := rfl
theorem hdC_len (e : Hd) : (hdC e).length = 3 := rfl
def EqRel (α : Type) (n : Nat) (x y : List α) (w : World) (g : Nat) (v : Value) (wr : World) : Prop := ∃ i : Nat, g = n - i ∧ i ≤ n ∧ v = .int .i64 i ∧ x.take i = y.take i ∧ Below w.heap.size w wr
theorem bs_eq_iff (p q : Nm) : ((bs p).toList == (bs q).toList) = decide (p = q) := by
 rw [ByteArray.toList_eq, ByteArray.toList_eq]
 simp only [bs]
 by_cases h : p = q
 · subst h; simp
 · rw [decide_eq_false h]; simpa using h
end Esch
namespace Go.Proofs.YtajbooppoohplaaGreatDoor
open Go.RowKit Esch

theorem neqMv (u v : Mv) (w : World) : (binOp .neq 203 (.agg (mvC u).toArray) (.agg (mvC v).toArray)).run Tryz.prog w = .ok (.bool (!decide (u = v))) w := by
 obtain ⟨a, b, c, d⟩ := u
 obtain ⟨a', b', c', d'⟩ := v
 simp only [mvC]
 have u3 := Tryz.underlying3
 have a3 := Tryz.isAgg3
 have z3 := Tryz.sizeOf3
 have u9 := Tryz.underlying9
 have a9 := Tryz.isAgg9
 have z9 := Tryz.sizeOf9
 have hS : Tryz.prog.underlying 203 = some (.struct (Tryz.prog.fieldsOf 203)) := by kernel_rfl
 have hp : Tryz.prog.stoodInHeld 203 = false := by kernel_rfl
 rw [run_neq_struct, show (10000 : Nat) = 9999 + 1 from rfl, run_equalIn_agg w 9999 203 _ _ hS hp]
 simp only [Program.fieldsOf, Tryz.underlying203]
 exact mK41
theorem eqMv_any (w : World) (S T : Nat → Prop) (a b : Option Addr) (c d : Nat) (x y : List Mv) (hx : RwAt w S 4 x.length a (x.flatMap mvC)) (hy : RwAt w T 4 y.length b (y.flatMap mvC)) (h8 : x.length ≤ 100000) :
    Calls Tryz.prog 172 #[.slice a x.length c, .slice b y.length d] w fun e w' => e = .returned (.bool (decide (x = y))) ∧ Below w.heap.size w w' := by
 by_cases hl : x.length = y.length
 rotate_left 1
 · have hl2 : ((x.length : Int) != y.length) = true := by simp only [bne_iff_ne, ne_eq]; omega
   rw [decide_eq_false (fun e => hl (by rw [e]))]
   go_enter Tryz.func172, Tryz.ntmps172
   exact mK48
 · have hl2 : ((x.length : Int) != y.length) = false := by simp only [bne_eq_false_iff_eq]; omega
   have HX := Lib.hid hx
   have HY := Lib.hid hy
   have HL := Lib.hid hl
   obtain ⟨n, hn⟩ : ∃ n, n = x.length := ⟨_, rfl⟩
   rw [← hl, ← hn]
   obtain ⟨dv, hdv⟩ : ∃ dv, dv = decide (x = y) := ⟨_, rfl⟩
   rw [← hdv]
   have HDV := Lib.hid hdv
   clear hdv
   have Hn := Lib.hid hn
   have hn8 : n ≤ 100000 := by omega
   clear hx hy hl hl2 h8 hn
   go_enter Tryz.func172, Tryz.ntmps172
   go_wp2_with fail
   go_loopg [13] n (fun g s5 wr => EqRel Mv n x y w g s5 wr)
   case atStart => exact ⟨0, rfl, Nat.zero_le _, rfl, rfl, Below.refl _ _⟩
   case round =>
    obtain ⟨i, rfl, hi, rfl, hte, hB⟩ := hrel
    have HT := Lib.hid hte
    have HB := Lib.hid hB
    clear hte hB
    by_cases hlt : i < n
    · have hix : i < x.length := by have := Hn.out; omega
      have hiy : i < y.length := by have := HL.out; omega
      obtain ⟨xb, xo, rfl, -, hxl, hxc⟩ := HX.out.elem mvC_len default hix
      obtain ⟨yb, yo, rfl, -, hyl, hyc⟩ := HY.out.elem mvC_len default hiy
      have htx := take_one x default hix
      have hty := take_one y default hiy
      have HTX := Lib.hid htx
      have HTY := Lib.hid hty
      generalize x.getD i default = u at *
      generalize y.getD i default = v at *
      have hne := fun W => neqMv u v W
      obtain ⟨q, hq⟩ : ∃ q, q = decide (u = v) := ⟨_, rfl⟩
      rw [← hq] at hne
      have HQ := Lib.hid hq
      clear hq
      have hgd := fun op a b W => run_eqGuard_agg (P := Tryz.prog) W op 203 a b (mvC u).toArray (mvC v).toArray (by kernel_rfl)
      obtain ⟨u0, u1, u2, u3⟩ := u
      obtain ⟨v0, v1, v2, v3⟩ := v
      simp only [mvC] at hne hgd
      exact mK47
    · exact mK45
theorem neqPt (u v : PtS) (w : World) : (binOp .neq 88 (.agg (ptC u).toArray) (.agg (ptC v).toArray)).run Tryz.prog w = .ok (.bool (!decide (u = v))) w := by
 obtain ⟨a, b, c, d⟩ := u
 obtain ⟨a', b', c', d'⟩ := v
 simp only [ptC]
 have u3 := Tryz.underlying3
 have a3 := Tryz.isAgg3
 have z3 := Tryz.sizeOf3
 have u9 := Tryz.underlying9
 have a9 := Tryz.isAgg9
 have z9 := Tryz.sizeOf9
 have hS : Tryz.prog.underlying 88 = some (.struct (Tryz.prog.fieldsOf 88)) := by kernel_rfl
 have hp : Tryz.prog.stoodInHeld 88 = false := by kernel_rfl
 rw [run_neq_struct, show (10000 : Nat) = 9999 + 1 from rfl, run_equalIn_agg w 9999 88 _ _ hS hp]
 simp only [Program.fieldsOf, Tryz.underlying88]
 exact mK41
theorem eqPt_any (w : World) (S T : Nat → Prop) (a b : Option Addr) (c d : Nat) (x y : List PtS) (hx : RwAt w S 4 x.length a (x.flatMap ptC)) (hy : RwAt w T 4 y.length b (y.flatMap ptC)) (h8 : x.length ≤ 100000) :
    Calls Tryz.prog 35 #[.slice a x.length c, .slice b y.length d] w fun e w' => e = .returned (.bool (decide (x = y))) ∧ Below w.heap.size w w' := by
 by_cases hl : x.length = y.length
 rotate_left 1
 · have hl2 : ((x.length : Int) != y.length) = true := by simp only [bne_iff_ne, ne_eq]; omega
   rw [decide_eq_false (fun e => hl (by rw [e]))]
   go_enter Tryz.func35, Tryz.ntmps35
   exact mK48
 · have hl2 : ((x.length : Int) != y.length) = false := by simp only [bne_eq_false_iff_eq]; omega
   have HX := Lib.hid hx
   have HY := Lib.hid hy
   have HL := Lib.hid hl
   obtain ⟨n, hn⟩ : ∃ n, n = x.length := ⟨_, rfl⟩
   rw [← hl, ← hn]
   obtain ⟨dv, hdv⟩ : ∃ dv, dv = decide (x = y) := ⟨_, rfl⟩
   rw [← hdv]
   have HDV := Lib.hid hdv
   clear hdv
   have Hn := Lib.hid hn
   have hn8 : n ≤ 100000 := by omega
   clear hx hy hl hl2 h8 hn
   go_enter Tryz.func35, Tryz.ntmps35
   go_wp2_with fail
   go_loopg [13] n (fun g s5 wr => EqRel PtS n x y w g s5 wr)
   case atStart => exact ⟨0, rfl, Nat.zero_le _, rfl, rfl, Below.refl _ _⟩
   case round =>
    obtain ⟨i, rfl, hi, rfl, hte, hB⟩ := hrel
    have HT := Lib.hid hte
    have HB := Lib.hid hB
    clear hte hB
    by_cases hlt : i < n
    · have hix : i < x.length := by have := Hn.out; omega
      have hiy : i < y.length := by have := HL.out; omega
      obtain ⟨xb, xo, rfl, -, hxl, hxc⟩ := HX.out.elem ptC_len default hix
      obtain ⟨yb, yo, rfl, -, hyl, hyc⟩ := HY.out.elem ptC_len default hiy
      have htx := take_one x default hix
      have hty := take_one y default hiy
      have HTX := Lib.hid htx
      have HTY := Lib.hid hty
      generalize x.getD i default = u at *
      generalize y.getD i default = v at *
      have hne := fun W => neqPt u v W
      obtain ⟨q, hq⟩ : ∃ q, q = decide (u = v) := ⟨_, rfl⟩
      rw [← hq] at hne
      have HQ := Lib.hid hq
      clear hq
      have hgd := fun op a b W => run_eqGuard_agg (P := Tryz.prog) W op 88 a b (ptC u).toArray (ptC v).toArray (by kernel_rfl)
      obtain ⟨u0, u1, u2, u3⟩ := u
      obtain ⟨v0, v1, v2, v3⟩ := v
      simp only [ptC] at hne hgd
      exact mK47
    · exact mK45
theorem neqEn (u v : EqK) (w : World) : (binOp .neq 92 (.agg (enC u).toArray) (.agg (enC v).toArray)).run Tryz.prog w = .ok (.bool (!decide (u = v))) w := by
 obtain ⟨a, b, c⟩ := u
 obtain ⟨a', b', c'⟩ := v
 simp only [enC]
 have u3 := Tryz.underlying3
 have a3 := Tryz.isAgg3
 have z3 := Tryz.sizeOf3
 have u9 := Tryz.underlying9
 have a9 := Tryz.isAgg9
 have z9 := Tryz.sizeOf9
 have hS : Tryz.prog.underlying 92 = some (.struct (Tryz.prog.fieldsOf 92)) := by kernel_rfl
 have hp : Tryz.prog.stoodInHeld 92 = false := by kernel_rfl
 rw [run_neq_struct, show (10000 : Nat) = 9999 + 1 from rfl, run_equalIn_agg w 9999 92 _ _ hS hp]
 simp only [Program.fieldsOf, Tryz.underlying92]
 go_simp
 have hb : ((bs b).toList = (bs b').toList) ↔ b = b' := by rw [← beq_iff_eq (α := List UInt8), bs_eq_iff]; exact decide_eq_true_iff
 by_cases h0 : a = a' <;> by_cases h1 : b = b' <;> by_cases h2 : c = c' <;> simp [h0, h1, h2, hb]
theorem eqEn_any (w : World) (S T : Nat → Prop) (a b : Option Addr) (c d : Nat) (x y : List EqK) (hx : RwAt w S 3 x.length a (x.flatMap enC)) (hy : RwAt w T 3 y.length b (y.flatMap enC)) (h8 : x.length ≤ 100000) :
    Calls Tryz.prog 36 #[.slice a x.length c, .slice b y.length d] w fun e w' => e = .returned (.bool (decide (x = y))) ∧ Below w.heap.size w w' := by
 by_cases hl : x.length = y.length
 rotate_left 1
 · have hl2 : ((x.length : Int) != y.length) = true := by simp only [bne_iff_ne, ne_eq]; omega
   rw [decide_eq_false (fun e => hl (by rw [e]))]
   go_enter Tryz.func36, Tryz.ntmps36
   exact mK48
 · have hl2 : ((x.length : Int) != y.length) = false := by simp only [bne_eq_false_iff_eq]; omega
   have HX := Lib.hid hx
   have HY := Lib.hid hy
   have HL := Lib.hid hl
   obtain ⟨n, hn⟩ : ∃ n, n = x.length := ⟨_, rfl⟩
   rw [← hl, ← hn]
   obtain ⟨dv, hdv⟩ : ∃ dv, dv = decide (x = y) := ⟨_, rfl⟩
   rw [← hdv]
   have HDV := Lib.hid hdv
   clear hdv
   have Hn := Lib.hid hn
   have hn8 : n ≤ 100000 := by omega
   clear hx hy hl hl2 h8 hn
   go_enter Tryz.func36, Tryz.ntmps36
   go_wp2_with fail
   go_loopg [13] n (fun g s5 wr => EqRel EqK n x y w g s5 wr)
   case atStart => exact ⟨0, rfl, Nat.zero_le _, rfl, rfl, Below.refl _ _⟩
   case round =>
    obtain ⟨i, rfl, hi, rfl, hte, hB⟩ := hrel
    have HT := Lib.hid hte
    have HB := Lib.hid hB
    clear hte hB
    by_cases hlt : i < n
    · have hix : i < x.length := by have := Hn.out; omega
      have hiy : i < y.length := by have := HL.out; omega
      obtain ⟨xb, xo, rfl, -, hxl, hxc⟩ := HX.out.elem enC_len default hix
      obtain ⟨yb, yo, rfl, -, hyl, hyc⟩ := HY.out.elem enC_len default hiy
      have htx := take_one x default hix
      have hty := take_one y default hiy
      have HTX := Lib.hid htx
      have HTY := Lib.hid hty
      generalize x.getD i default = u at *
      generalize y.getD i default = v at *
      have hne := fun W => neqEn u v W
      obtain ⟨q, hq⟩ : ∃ q, q = decide (u = v) := ⟨_, rfl⟩
      rw [← hq] at hne
      have HQ := Lib.hid hq
      clear hq
      have hgd := fun op a b W => run_eqGuard_agg (P := Tryz.prog) W op 92 a b (enC u).toArray (enC v).toArray (by kernel_rfl)
      obtain ⟨u0, u1, u2⟩ := u
      obtain ⟨v0, v1, v2⟩ := v
      simp only [enC] at hne hgd
      have f0 : wr.cell? ⟨xb, xo + i * 3, none⟩ = some (.int .i64 u0) := below_at HB.out (hxc 0 (by decide)) hxl
      have f1 : wr.cell? ⟨xb, xo + i * 3 + 1, none⟩ = some (.string (bs u1)) := below_at HB.out (hxc 1 (by decide)) hxl
      have f2 : wr.cell? ⟨xb, xo + i * 3 + 2, none⟩ = some (.int .i64 u2) := below_at HB.out (hxc 2 (by decide)) hxl
      have g0 : wr.cell? ⟨yb, yo + i * 3, none⟩ = some (.int .i64 v0) := below_at HB.out (hyc 0 (by decide)) hyl
      have g1 : wr.cell? ⟨yb, yo + i * 3 + 1, none⟩ = some (.string (bs v1)) := below_at HB.out (hyc 1 (by decide)) hyl
      exact mK49
    · exact mK45
theorem neqHd (u v : Hd) (w : World) : (binOp .neq 95 (.agg (hdC u).toArray) (.agg (hdC v).toArray)).run Tryz.prog w = .ok (.bool (!decide (u = v))) w := by
 obtain ⟨⟨a, b⟩, c⟩ := u
 obtain ⟨⟨a', b'⟩, c'⟩ := v
 simp only [hdC]
 have u3 := Tryz.underlying3
 have a3 := Tryz.isAgg3
 have z3 := Tryz.sizeOf3
 have u9 := Tryz.underlying9
 have a9 := Tryz.isAgg9
 have z9 := Tryz.sizeOf9
 have hS : Tryz.prog.underlying 95 = some (.struct (Tryz.prog.fieldsOf 95)) := by kernel_rfl
 have hp : Tryz.prog.stoodInHeld 95 = false := by kernel_rfl
 rw [run_neq_struct, show (10000 : Nat) = 9999 + 1 from rfl, run_equalIn_agg w 9999 95 _ _ hS hp]
 simp only [Program.fieldsOf, Tryz.underlying95]
 go_simp
 by_cases h0 : a = a' <;> by_cases h1 : b = b' <;> by_cases h2 : c = c' <;> simp [h0, h1, h2]
theorem eqHd_any (w : World) (S T : Nat → Prop) (a b : Option Addr) (c d : Nat) (x y : List Hd) (hx : RwAt w S 3 x.length a (x.flatMap hdC)) (hy : RwAt w T 3 y.length b (y.flatMap hdC)) (h8 : x.length ≤ 100000) :
    Calls Tryz.prog 37 #[.slice a x.length c, .slice b y.length d] w fun e w' => e = .returned (.bool (decide (x = y))) ∧ Below w.heap.size w w' := by
 by_cases hl : x.length = y.length
 rotate_left 1
 · have hl2 : ((x.length : Int) != y.length) = true := by simp only [bne_iff_ne, ne_eq]; omega
   rw [decide_eq_false (fun e => hl (by rw [e]))]
   go_enter Tryz.func37, Tryz.ntmps37
   exact mK48
 · have hl2 : ((x.length : Int) != y.length) = false := by simp only [bne_eq_false_iff_eq]; omega
   have HX := Lib.hid hx
   have HY := Lib.hid hy
   have HL := Lib.hid hl
   obtain ⟨n, hn⟩ : ∃ n, n = x.length := ⟨_, rfl⟩
   rw [← hl, ← hn]
   obtain ⟨dv, hdv⟩ : ∃ dv, dv = decide (x = y) := ⟨_, rfl⟩
   rw [← hdv]
   have HDV := Lib.hid hdv
   clear hdv
   have Hn := Lib.hid hn
   have hn8 : n ≤ 100000 := by omega
   clear hx hy hl hl2 h8 hn
   go_enter Tryz.func37, Tryz.ntmps37
   go_wp2_with fail
   go_loopg [13] n (fun g s5 wr => EqRel Hd n x y w g s5 wr)
   case atStart => exact ⟨0, rfl, Nat.zero_le _, rfl, rfl, Below.refl _ _⟩
   case round =>
    obtain ⟨i, rfl, hi, rfl, hte, hB⟩ := hrel
    have HT := Lib.hid hte
    have HB := Lib.hid hB
    clear hte hB
    by_cases hlt : i < n
    · have hix : i < x.length := by have := Hn.out; omega
      have hiy : i < y.length := by have := HL.out; omega
      obtain ⟨xb, xo, rfl, -, hxl, hxc⟩ := HX.out.elem hdC_len default hix
      obtain ⟨yb, yo, rfl, -, hyl, hyc⟩ := HY.out.elem hdC_len default hiy
      have htx := take_one x default hix
      have hty := take_one y default hiy
      have HTX := Lib.hid htx
      have HTY := Lib.hid hty
      generalize x.getD i default = u at *
      generalize y.getD i default = v at *
      have hne := fun W => neqHd u v W
      obtain ⟨q, hq⟩ : ∃ q, q = decide (u = v) := ⟨_, rfl⟩
      rw [← hq] at hne
      have HQ := Lib.hid hq
      clear hq
      have hgd := fun op a b W => run_eqGuard_agg (P := Tryz.prog) W op 95 a b (hdC u).toArray (hdC v).toArray (by kernel_rfl)
      obtain ⟨⟨u0, u1⟩, u2⟩ := u
      obtain ⟨⟨v0, v1⟩, v2⟩ := v
      simp only [hdC] at hne hgd
      have f0 : wr.cell? ⟨xb, xo + i * 3, none⟩ = some (.int .i64 u0) := below_at HB.out (hxc 0 (by decide)) hxl
      have f1 : wr.cell? ⟨xb, xo + i * 3 + 1, none⟩ = some (.int .i64 u1) := below_at HB.out (hxc 1 (by decide)) hxl
      have f2 : wr.cell? ⟨xb, xo + i * 3 + 2, none⟩ = some (.int .i64 u2) := below_at HB.out (hxc 2 (by decide)) hxl
      have g0 : wr.cell? ⟨yb, yo + i * 3, none⟩ = some (.int .i64 v0) := below_at HB.out (hyc 0 (by decide)) hyl
      have g1 : wr.cell? ⟨yb, yo + i * 3 + 1, none⟩ = some (.int .i64 v1) := below_at HB.out (hyc 1 (by decide)) hyl
      exact mK49
    · exact mK45
end Go.Proofs.YtajbooppoohplaaGreatDoor
