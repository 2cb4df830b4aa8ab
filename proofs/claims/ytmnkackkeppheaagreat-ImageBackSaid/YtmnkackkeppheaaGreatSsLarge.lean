/- is a dump too large for the statement? law20.Large, law25.Large -/
import Derived.Test.YtmnkackkeppheaaGreatPkSm
namespace Go.Proofs.YtmnkackkeppheaaGreat
open Go.RowKit Esch

set_option linter.unusedSimpArgs false
def Lg20Post (w : World) (l : List InC) (e : Ending) (w' : World) : Prop := ∃ r, e = .returned (.bool r) ∧ (r = false → l.length ≤ 100 ∧ ∀ x ∈ l, x.ps.length ≤ 100) ∧ Below w.heap.size w w'
def Lg20Rel (w : World) (l : List InC) (g : Nat) (v : Value) (wr : World) : Prop := ∃ i : Nat, g = l.length - i ∧ i ≤ l.length ∧ v = .int .i64 i ∧ (∀ x ∈ l.take i, x.ps.length ≤ 100) ∧ Below w.heap.size w wr
set_option maxRecDepth 100000 in
set_option maxHeartbeats 4000000 in
theorem large20_any (w : World) (S : Nat → Prop) (a : Option Addr) (c : Nat) (l : List InC) (h : RwAt w S 6 l.length a (l.flatMap InC.cells)) : Calls Tryz.prog 39 #[.slice a l.length c] w (Lg20Post w l) := by
  by_cases hl : 100 < l.length
  · have hl' : (100 : Int) < (l.length : Int) := by omega
    clear hl
    go_enter Tryz.func39, Tryz.ntmps39
    go_wp2_with fail
    go_ret
    exact ⟨true, rfl, fun h => (by cases h), Below.refl _ _⟩
  · have hl' : ¬ (100 : Int) < (l.length : Int) := by omega
    have hln : l.length ≤ 100 := by omega
    have HL := Lib.hid hln
    have HE := Lib.hid h
    clear hl h hln
    go_enter Tryz.func39, Tryz.ntmps39
    go_wp2_with fail
    go_loopg [3] l.length (fun g v wr => Lg20Rel w l g v wr)
    case atStart => exact ⟨0, rfl, Nat.zero_le _, rfl, by simp, Below.refl _ _⟩
    case round =>
      obtain ⟨i, rfl, hi, rfl, hte, hB⟩ := hrel
      have HT := Lib.hid hte
      have HB := Lib.hid hB
      clear hte hB
      by_cases hlt : i < l.length
      · obtain ⟨bk, off, rfl, -, hbl, hc⟩ := HE.out.elem InC.cells_len default hlt
        have HTX := Lib.hid (take_one l default hlt)
        generalize l.getD i default = u at *
        obtain ⟨u0, u1, u2, u3, u4, pu, cu, lu⟩ := u
        have f5 : wr.cell? ⟨bk, off + i * 6 + 5, none⟩ = some (.slice pu lu.length cu) := below_at HB.out (hc 5 (by decide)) hbl
        have hbl' := cell_lt f5
        have hil2 : (0 : Int) ≤ i ∧ (i : Int) < l.length := by omega
        have hi1 := Lib.hid (show i + 1 ≤ l.length from hlt)
        have hms := Lib.hid (show l.length - (i + 1) < l.length - i from Nat.sub_lt_sub_left hlt (Nat.lt_succ_self i))
        have hwr1 := Lib.hid (show wrap64 ((i : Int) + 1) = ((i + 1 : Nat) : Int) by unfold wrap64; have := HL.out; omega)
        clear hc
        by_cases h1 : 100 < lu.length
        · have h1' : (100 : Int) < (lu.length : Int) := by omega
          clear h1
          go_wp2_with fail
          go_ret
          exact ⟨true, rfl, fun h => (by cases h), HB.out⟩
        · have h1' : ¬ (100 : Int) < (lu.length : Int) := by omega
          have H1 := Lib.hid (show lu.length ≤ 100 by omega)
          clear h1
          go_wp2_with fail
          go_roundg (l.length - (i + 1))
          case measure => exact hms.out
          case rel => exact ⟨i + 1, rfl, hi1.out, by first | rfl | rw [hwr1.out], by
            rw [HTX.out]
            intro x hx
            rcases List.mem_append.1 hx with hx | hx
            · exact HT.out x hx
            · rw [List.mem_singleton] at hx; subst hx; exact H1.out, HB.out⟩
      · obtain rfl : i = l.length := by omega
        have ht := HT.out
        rw [List.take_length] at ht
        have HT2 := Lib.hid ht
        clear ht hlt
        go_wp2_with fail
        go_ret
        exact ⟨false, rfl, fun _ => ⟨HL.out, HT2.out⟩, HB.out⟩
def Lg25Post (w : World) (x : DmC) (e : Ending) (w' : World) : Prop := ∃ r, e = .returned (.bool r) ∧ (r = false → (x.ik.length ≤ 100 ∧ ∀ y ∈ x.ik, y.ps.length ≤ 100) ∧ x.nl.length ≤ 300 ∧ x.hl.length ≤ 300) ∧ Below w.heap.size w w'
def Lg25Rel (w : World) (n : Nat) (g : Nat) (v : Value) (wr : World) : Prop := ∃ i : Nat, g = n - i ∧ i ≤ n ∧ v = .int .i64 i ∧ Below w.heap.size w wr
set_option maxRecDepth 100000 in
set_option maxHeartbeats 8000000 in
theorem large25_any (w : World) (S T : Nat → Prop) (x : DmC) (hi : RwAt w S 6 x.ik.length x.ia (x.ik.flatMap InC.cells)) (hn : RwAt w T 3 x.nl.length x.na (x.nl.flatMap enC)) : Calls Tryz.prog 11 #[.agg x.cells.toArray] w (Lg25Post w x) := by
  obtain ⟨xn, xia, xic, xik, xm, xna, xnc, xnl, xha, xhc, xhl, xl, xs, xr⟩ := x
  simp only [DmC.cells]
  obtain ⟨W1, hW1⟩ : ∃ W1, W1 = w.alloc (.cells #[.int .i64 xn, .slice xia xik.length xic, .int .i64 xm, .slice xna xnl.length xnc, .slice xha xhl.length xhc, .int .i64 (xl 0), .int .i64 (xl 1), .int .i64 (xl 2), .int .i64 (xl 3), .int .i64 (xl 4), .int .i64 (xl 5), .int .i64 (xl 6), .int .i64 (xl 7), .int .i64 (xs 0), .int .i64 (xs 1), .int .i64 (xs 2), .int .i64 (xs 3), .int .i64 (xs 4), .int .i64 (xs 5), .int .i64 (xs 6), .int .i64 (xs 7), .int .i64 (xr 0), .int .i64 (xr 1), .int .i64 (xr 2), .int .i64 (xr 3), .int .i64 (xr 4), .int .i64 (xr 5), .int .i64 (xr 6), .int .i64 (xr 7), .int .i64 (xr 8), .int .i64 (xr 9), .int .i64 (xr 10), .int .i64 (xr 11), .int .i64 (xr 12), .int .i64 (xr 13), .int .i64 (xr 14), .int .i64 (xr 15)] 32) := ⟨_, rfl⟩
  have hB1 : Below w.heap.size w W1 := by rw [hW1]; exact belC (Below.refl _ _)
  have hlg := large20_any W1 S xia xic xik (hi.below' hB1)
  have c1 : W1.cell? ⟨w.heap.size, 1, none⟩ = some (.slice xia xik.length xic) := by rw [hW1]; go_simp
  have c3 : W1.cell? ⟨w.heap.size, 3, none⟩ = some (.slice xna xnl.length xnc) := by rw [hW1]; go_simp
  have c4 : W1.cell? ⟨w.heap.size, 4, none⟩ = some (.slice xha xhl.length xhc) := by rw [hW1]; go_simp
  have hol := cell_lt c1
  have HN := Lib.hid hn
  have HW1 := Lib.hid hW1
  have HB1 := Lib.hid hB1
  clear hi hn hW1 hB1
  unfold Lg25Post
  simp only
  go_enter Tryz.func11, Tryz.ntmps11
  go_wp2_with fail
  rw [← HW1.out]
  refine hlg.mono ?_
  clear hlg HW1
  rintro e w2 ⟨r, rfl, hr, hB2⟩
  have c3 := below_at hB2 c3 hol
  have c4 := below_at hB2 c4 hol
  have c1 := below_at hB2 c1 hol
  have HB2 := Lib.hid (HB1.out.trans (hB2.mono HB1.out.size))
  have hol := cell_lt c3
  clear hB2
  cases r
  rotate_left 1
  · clear hr
    go_wp2_with fail
    go_ret
    exact ⟨true, rfl, fun h => (by cases h), HB2.out⟩
  have HR := Lib.hid (hr rfl)
  clear hr
  by_cases h1 : 300 < xnl.length
  · have h1' : (300 : Int) < (xnl.length : Int) := by omega
    clear h1
    go_wp2_with fail
    go_ret
    exact ⟨true, rfl, fun h => (by cases h), HB2.out⟩
  have h1' : ¬ (300 : Int) < (xnl.length : Int) := by omega
  have H1 := Lib.hid (show xnl.length ≤ 300 by omega)
  clear h1
  by_cases h2 : 300 < xhl.length
  · have h2' : (300 : Int) < (xhl.length : Int) := by omega
    clear h2
    go_wp2_with fail
    go_ret
    exact ⟨true, rfl, fun h => (by cases h), HB2.out⟩
  have h2' : ¬ (300 : Int) < (xhl.length : Int) := by omega
  have H2 := Lib.hid (show xhl.length ≤ 300 by omega)
  clear h2
  have C3 := Lib.hid c3
  have C1 := Lib.hid c1
  go_wp2_with fail
  clear c1 c3 c4
  go_loopg [3] xnl.length (fun g v wr => Lg25Rel w2 xnl.length g v wr)
  case atStart => exact ⟨0, rfl, Nat.zero_le _, rfl, Below.refl _ _⟩
  case round =>
    obtain ⟨i, rfl, hi, rfl, hB⟩ := hrel
    have HB := Lib.hid hB
    have c3 := below_at hB C3.out hol
    have hol' := cell_lt c3
    clear hB
    by_cases hlt : i < xnl.length
    · obtain ⟨bk, off, hxa, -, hbl, hc⟩ := HN.out.elem enC_len default hlt
      subst hxa
      generalize xnl.getD i default = u at *
      obtain ⟨u0, u1, u2⟩ := u
      have f1 : wr.cell? ⟨bk, off + i * 3 + 1, none⟩ = some (.string (bs u1)) := below_at HB.out (below_at HB2.out (hc 1 (by decide)) hbl) (Nat.lt_of_lt_of_le hbl HB2.out.size)
      have hbl' := cell_lt f1
      have hil2 : (0 : Int) ≤ i ∧ (i : Int) < xnl.length := by omega
      have hi1 := Lib.hid (show i + 1 ≤ xnl.length from hlt)
      have hms := Lib.hid (show xnl.length - (i + 1) < xnl.length - i from Nat.sub_lt_sub_left hlt (Nat.lt_succ_self i))
      have hwr1 := Lib.hid (show wrap64 ((i : Int) + 1) = ((i + 1 : Nat) : Int) by unfold wrap64; have := H1.out; omega)
      clear hc
      by_cases h3 : (1000 : Int) < (u1.length : Int)
      · go_wp2_with fail
        go_ret
        exact ⟨true, rfl, fun h => (by cases h), HB2.out.trans (HB.out.mono HB2.out.size)⟩
      · go_wp2_with fail
        go_roundg (xnl.length - (i + 1))
        case measure => exact hms.out
        case rel => exact ⟨i + 1, rfl, hi1.out, by first | rfl | rw [hwr1.out], HB.out⟩
    · obtain rfl : i = xnl.length := by omega
      clear hlt
      go_wp2_with fail
      go_ret
      exact ⟨false, rfl, fun _ => ⟨HR.out, H1.out, H2.out⟩, HB2.out.trans (HB.out.mono HB2.out.size)⟩
end Go.Proofs.YtmnkackkeppheaaGreat
