/- keep.Texts: are two lists of texts one? -/
import Derived.Test.YtpiogibkleaaaaaGreatDoorPkPath
import Derived.Test.YtpiogibkleaaaaaGreatDoorPkDir
namespace Go.Proofs.YtpiogibkleaaaaaGreatDoor
open Go.RowKit Esch

def TxRel (n : Nat) (x y : List Nm) (w : World) (g : Nat) (s5 : Value) (wr : World) : Prop := ∃ i : Nat, g = n - i ∧ i ≤ n ∧ s5 = .int .i64 i ∧ x.take i = y.take i ∧ Below w.heap.size w wr
set_option maxRecDepth 100000 in
set_option maxHeartbeats 2000000 in
theorem texts_any (w : World) (S T : Nat → Prop) (a b : Option Addr) (c d : Nat) (x y : List Nm) (hx : NmsAt S w a x) (hy : NmsAt T w b y) (h8 : x.length ≤ 100000) :
    Calls Tryz.prog 25 #[.slice a x.length c, .slice b y.length d] w fun e w' => e = .returned (.bool (decide (x = y))) ∧ Below w.heap.size w w' := by
  by_cases hl : x.length = y.length
  rotate_left 1
  · have hl2 : ((x.length : Int) != y.length) = true := by simp only [bne_iff_ne, ne_eq]; omega
    rw [decide_eq_false (fun e => hl (by rw [e]))]
    go_enter Tryz.func25, Tryz.ntmps25
    go_wp2_with fail
    go_ret
    exact ⟨rfl, Below.refl _ _⟩
  · have hl2 : ((x.length : Int) != y.length) = false := by simp only [bne_eq_false_iff_eq]; omega
    have HX := Lib.hid hx
    have HY := Lib.hid hy
    have HL := Lib.hid hl
    obtain ⟨n, hn⟩ : ∃ n, n = x.length := ⟨_, rfl⟩
    rw [← hl, ← hn]
    obtain ⟨dv, hdv⟩ : ∃ dv, dv = decide (x = y) := ⟨_, rfl⟩
    rw [← hdv]
    have HDV := Lib.hid hdv
    clear hdv
    have Hn := Lib.hid hn
    have hn8 : n ≤ 100000 := by omega
    clear hx hy hl hl2 h8 hn
    go_enter Tryz.func25, Tryz.ntmps25
    go_wp2_with fail
    go_loopg [5] n (fun g s5 wr => TxRel n x y w g s5 wr)
    case atStart => exact ⟨0, rfl, Nat.zero_le _, rfl, rfl, Below.refl _ _⟩
    case round =>
      obtain ⟨i, rfl, hi, rfl, hte, hB⟩ := hrel
      have HT := Lib.hid hte
      have HB := Lib.hid hB
      clear hte hB
      by_cases hlt : i < n
      · have hix : i < x.length := by have := Hn.out; omega
        have hiy : i < y.length := by have := HL.out; omega
        obtain ⟨xb, xo, rfl, -, hxl, hxc⟩ := HX.out (by omega)
        obtain ⟨yb, yo, rfl, -, hyl, hyc⟩ := HY.out (by omega)
        have f0 := below_at HB.out (hxc i hix) hxl
        have f1 := below_at HB.out (hyc i hiy) hyl
        have htx : x.take (i + 1) = x.take i ++ [x.getD i []] := by rw [List.take_succ_eq_append_getElem hix, List.getD_eq_getElem?_getD, List.getElem?_eq_getElem hix]; rfl
        have hty : y.take (i + 1) = y.take i ++ [y.getD i []] := by rw [List.take_succ_eq_append_getElem hiy, List.getD_eq_getElem?_getD, List.getElem?_eq_getElem hiy]; rfl
        have HTX := Lib.hid htx
        have HTY := Lib.hid hty
        generalize x.getD i [] = u at *
        generalize y.getD i [] = v at *
        have hil2 : (0 : Int) ≤ i ∧ (i : Int) < n := by omega
        have hi1 : i + 1 ≤ n := hlt
        have hms : n - (i + 1) < n - i := by omega
        have hwr1 := Lib.hid (show wrap64 ((i : Int) + 1) = ((i + 1 : Nat) : Int) by unfold wrap64; omega)
        clear htx hty hxc hyc
        have hKd : wr.drew.cell? ⟨xb, xo + i, none⟩ = some (.string (bs u)) ∧ wr.drew.cell? ⟨yb, yo + i, none⟩ = some (.string (bs v)) := ⟨f0, f1⟩
        by_cases huv : u = v
        · subst huv
          go_wp2_with fail
          refine wp_region_held_drew (S := fun W' => W'.cell? ⟨xb, xo + i, none⟩ = some (.string (bs u)) ∧ W'.cell? ⟨yb, yo + i, none⟩ = some (.string (bs u))) (by kernel_rfl) hKd (fun hHeld => ?_)
          refine takeL 0 ?_
          refine takeL 1 ?_
          refine takeL 2 ?_
          refine takeL 3 ?_
          refine takeL 4 ?_
          refine takeL 5 ?_
          refine takeL 6 ?_
          refine takeL 7 ?_
          refine takeL 8 ?_
          refine wpAnyH_done (by kernel_rfl) ?_ _
          go_wp2_with fail
          go_roundg (n - (i + 1))
          case measure => exact hms
          case rel => exact ⟨i + 1, rfl, hi1, by first | rfl | rw [hwr1.out], by rw [HTX.out, HTY.out, HT.out], HB.out.drew⟩
        · have hne : ((bs u).toList == (bs v).toList) = false := by rw [toList_bs, toList_bs]; simpa using huv
          have hdv : dv = false := by
            rw [HDV.out]
            refine decide_eq_false (fun e => ?_)
            subst e
            have h1 := HTX.out
            rw [HTY.out] at h1
            exact huv (by simpa using (List.append_cancel_left h1).symm)
          subst hdv
          go_wp2_with fail
          refine wp_region_held_drew (S := fun W' => W'.cell? ⟨xb, xo + i, none⟩ = some (.string (bs u)) ∧ W'.cell? ⟨yb, yo + i, none⟩ = some (.string (bs v))) (by kernel_rfl) hKd (fun hHeld => ?_)
          refine takeL 0 ?_
          refine takeL 1 ?_
          refine takeL 2 ?_
          refine takeL 3 ?_
          refine takeL 4 ?_
          refine takeL 5 ?_
          refine takeL 6 ?_
          refine takeL 7 ?_
          refine takeL 8 ?_
          refine wpAnyH_done (by kernel_rfl) ?_ _
          go_wp2_with fail
          go_ret
          exact ⟨rfl, HB.out.drew⟩
      · obtain rfl : i = n := by omega
        have hxy : x = y := by
          have h1 := HT.out
          rw [List.take_of_length_le (by have := Hn.out; omega), List.take_of_length_le (by have := Hn.out; have := HL.out; omega)] at h1
          exact h1
        have hdv : dv = true := by rw [HDV.out]; exact decide_eq_true hxy
        subst hdv
        clear hxy
        go_wp2_with fail
        go_ret
        exact ⟨rfl, HB.out⟩
end Go.Proofs.YtpiogibkleaaaaaGreatDoor
