import Derived.Test.YtpiogibkleaaaaaGreatDoorPkBase
import Derived.Test.YtpiogibkleaaaaaGreatDoorPkPath
import Derived.Test.YtpiogibkleaaaaaGreatDoorPkInd
/- keep.Parts: are two lists of parts one? -/
namespace Go.Proofs.YtpiogibkleaaaaaGreatDoor
open Go.RowKit Esch

def PtRel (n : Nat) (x y : List PtS) (w : World) (g : Nat) (s5 : Value) (wr : World) : Prop := ∃ i : Nat, g = n - i ∧ i ≤ n ∧ s5 = .int .i64 i ∧ x.take i = y.take i ∧ Below w.heap.size w wr
set_option maxRecDepth 100000 in
set_option maxHeartbeats 4000000 in
theorem parts_any (w : World) (S T : Nat → Prop) (a b : Option Addr) (c d : Nat) (x y : List PtS) (hx : PtsAt w S a x) (hy : PtsAt w T b y) (h8 : x.length ≤ 100000) :
    Calls Tryz.prog 62 #[.slice a x.length c, .slice b y.length d] w fun e w' => e = .returned (.bool (decide (x = y))) ∧ Below w.heap.size w w' := by
  by_cases hl : x.length = y.length
  rotate_left 1
  · have hl2 : ((x.length : Int) != y.length) = true := by simp only [bne_iff_ne, ne_eq]; omega
    rw [decide_eq_false (fun e => hl (by rw [e]))]
    go_enter Tryz.func62, Tryz.ntmps62
    go_wp2_with fail
    go_ret
    exact ⟨rfl, Below.refl _ _⟩
  · have hl2 : ((x.length : Int) != y.length) = false := by simp only [bne_eq_false_iff_eq]; omega
    have HX := Lib.hid hx
    have HY := Lib.hid hy
    have HL := Lib.hid hl
    obtain ⟨n, hn⟩ : ∃ n, n = x.length := ⟨_, rfl⟩
    rw [← hl, ← hn]
    obtain ⟨dv, hdv⟩ : ∃ dv, dv = decide (x = y) := ⟨_, rfl⟩
    rw [← hdv]
    have HDV := Lib.hid hdv
    clear hdv
    have Hn := Lib.hid hn
    have hn8 : n ≤ 100000 := by omega
    clear hx hy hl hl2 h8 hn
    go_enter Tryz.func62, Tryz.ntmps62
    go_wp2_with fail
    go_loopg [5] n (fun g s5 wr => PtRel n x y w g s5 wr)
    case atStart => exact ⟨0, rfl, Nat.zero_le _, rfl, rfl, Below.refl _ _⟩
    case round =>
      obtain ⟨i, rfl, hi, rfl, hte, hB⟩ := hrel
      have HT := Lib.hid hte
      have HB := Lib.hid hB
      clear hte hB
      by_cases hlt : i < n
      · have hix : i < x.length := by have := Hn.out; omega
        have hiy : i < y.length := by have := HL.out; omega
        obtain ⟨xb, xo, rfl, -, hxl, hxc⟩ := HX.out.elem ptC_len default hix
        obtain ⟨yb, yo, rfl, -, hyl, hyc⟩ := HY.out.elem ptC_len default hiy
        have htx := take_one x default hix
        have hty := take_one y default hiy
        have HTX := Lib.hid htx
        have HTY := Lib.hid hty
        generalize x.getD i default = u at *
        generalize y.getD i default = v at *
        obtain ⟨u0, u1, u2, u3⟩ := u
        obtain ⟨v0, v1, v2, v3⟩ := v
        have f0 : wr.cell? ⟨xb, xo + i * 4, none⟩ = some (.int .i64 u0) := below_at HB.out (hxc 0 (by decide)) hxl
        have f1 : wr.cell? ⟨xb, xo + i * 4 + 1, none⟩ = some (.int .i64 u1) := below_at HB.out (hxc 1 (by decide)) hxl
        have f2 : wr.cell? ⟨xb, xo + i * 4 + 2, none⟩ = some (.int .i64 u2) := below_at HB.out (hxc 2 (by decide)) hxl
        have f3 : wr.cell? ⟨xb, xo + i * 4 + 3, none⟩ = some (.int .i64 u3) := below_at HB.out (hxc 3 (by decide)) hxl
        have g0 : wr.cell? ⟨yb, yo + i * 4, none⟩ = some (.int .i64 v0) := below_at HB.out (hyc 0 (by decide)) hyl
        have g1 : wr.cell? ⟨yb, yo + i * 4 + 1, none⟩ = some (.int .i64 v1) := below_at HB.out (hyc 1 (by decide)) hyl
        have g2 : wr.cell? ⟨yb, yo + i * 4 + 2, none⟩ = some (.int .i64 v2) := below_at HB.out (hyc 2 (by decide)) hyl
        have g3 : wr.cell? ⟨yb, yo + i * 4 + 3, none⟩ = some (.int .i64 v3) := below_at HB.out (hyc 3 (by decide)) hyl
        have hxl' := cell_lt f0
        have hzB := HB.out.size
        have hyl' := cell_lt g0
        have hil2 : (0 : Int) ≤ i ∧ (i : Int) < n := by omega
        have hi1 : i + 1 ≤ n := hlt
        have hms : n - (i + 1) < n - i := by omega
        have hwr1 := Lib.hid (show wrap64 ((i : Int) + 1) = ((i + 1 : Nat) : Int) by unfold wrap64; omega)
        clear htx hty hxc hyc
        by_cases huv : (⟨u0, u1, u2, u3⟩ : PtS) = ⟨v0, v1, v2, v3⟩
        · cases huv
          go_wp2_with fail
          go_region
          all_goals
            go_wp2_with fail
            go_roundg (n - (i + 1))
            case measure => exact hms
            case rel => exact ⟨i + 1, rfl, hi1, by first | rfl | rw [hwr1.out], by rw [HTX.out, HTY.out, HT.out], by exact belC HB.out⟩
        · have hdv : dv = false := by
            rw [HDV.out]
            refine decide_eq_false (fun e => ?_)
            subst e
            have h1 := HTX.out
            rw [HTY.out] at h1
            exact huv (by simpa using (List.append_cancel_left h1).symm)
          subst hdv
          have HUV := Lib.hid huv
          clear huv
          by_cases e0 : u0 = v0
          · subst e0
            by_cases e1 : u1 = v1
            · subst e1
              by_cases e2 : u2 = v2
              · subst e2
                have e3 : (u3 != v3) = true := by simp only [bne_iff_ne, ne_eq]; intro e; exact HUV.out (by rw [e])
                go_wp2_with fail
                go_region
                all_goals
                  go_wp2_with fail
                  go_ret
                  exact ⟨rfl, by exact belC HB.out⟩
              · have e2' : (u2 != v2) = true := by simp only [bne_iff_ne, ne_eq]; exact e2
                clear e2
                go_wp2_with fail
                go_region
                all_goals
                  go_wp2_with fail
                  go_ret
                  exact ⟨rfl, by exact belC HB.out⟩
            · have e1' : (u1 != v1) = true := by simp only [bne_iff_ne, ne_eq]; exact e1
              clear e1
              go_wp2_with fail
              go_region
              all_goals
                go_wp2_with fail
                go_ret
                exact ⟨rfl, by exact belC HB.out⟩
          · have e0' : (u0 != v0) = true := by simp only [bne_iff_ne, ne_eq]; exact e0
            clear e0
            go_wp2_with fail
            go_region
            all_goals
              go_wp2_with fail
              go_ret
              exact ⟨rfl, by exact belC HB.out⟩
      · obtain rfl : i = n := by omega
        have hxy : x = y := by
          have h1 := HT.out
          rw [List.take_of_length_le (by have := Hn.out; omega), List.take_of_length_le (by have := Hn.out; have := HL.out; omega)] at h1
          exact h1
        have hdv : dv = true := by rw [HDV.out]; exact decide_eq_true hxy
        subst hdv
        clear hxy
        go_wp2_with fail
        go_ret
        exact ⟨rfl, HB.out⟩
end Go.Proofs.YtpiogibkleaaaaaGreatDoor
/- ref20.Same: how the document compares two lists of inodes -/
namespace Go.Proofs.YtpiogibkleaaaaaGreatDoor
open Go.RowKit Esch

def InoSRel (n : Nat) (x y : List InC) (w : World) (g : Nat) (s5 : Value) (wr : World) : Prop := ∃ i : Nat, g = n - i ∧ i ≤ n ∧ s5 = .int .i64 i ∧ (x.take i).map InC.val = (y.take i).map InC.val ∧ Below w.heap.size w wr
set_option maxRecDepth 100000 in
set_option maxHeartbeats 8000000 in
theorem rInoSame_any (w : World) (S T : Nat → Prop) (a b : Option Addr) (c d : Nat) (x y : List InC) (hx : InosAt w S a x) (hy : InosAt w T b y) (h8 : x.length ≤ 100000) :
    Calls Tryz.prog 31 #[.slice a x.length c, .slice b y.length d] w fun e w' => e = .returned (.bool (decide (x.map InC.val = y.map InC.val))) ∧ Below w.heap.size w w' := by
  by_cases hl : x.length = y.length
  rotate_left 1
  · have hl2 : ((x.length : Int) != y.length) = true := by simp only [bne_iff_ne, ne_eq]; omega
    rw [decide_eq_false (fun e => hl (by have := congrArg List.length e; simpa using this))]
    go_enter Tryz.func31, Tryz.ntmps31
    go_wp2_with fail
    go_ret
    exact ⟨rfl, Below.refl _ _⟩
  · have hl2 : ((x.length : Int) != y.length) = false := by simp only [bne_eq_false_iff_eq]; omega
    have HX := Lib.hid hx
    have HY := Lib.hid hy
    have HL := Lib.hid hl
    obtain ⟨n, hn⟩ : ∃ n, n = x.length := ⟨_, rfl⟩
    rw [← hl, ← hn]
    obtain ⟨dv, hdv⟩ : ∃ dv, dv = decide (x.map InC.val = y.map InC.val) := ⟨_, rfl⟩
    rw [← hdv]
    have HDV := Lib.hid hdv
    clear hdv
    have Hn := Lib.hid hn
    have hn8 : n ≤ 100000 := by omega
    clear hx hy hl hl2 h8 hn
    go_enter Tryz.func31, Tryz.ntmps31
    go_wp2_with fail
    go_loopg [5] n (fun g s5 wr => InoSRel n x y w g s5 wr)
    case atStart => exact ⟨0, rfl, Nat.zero_le _, rfl, rfl, Below.refl _ _⟩
    case round =>
      obtain ⟨i, rfl, hi, rfl, hte, hB⟩ := hrel
      have HT := Lib.hid hte
      have HB := Lib.hid hB
      clear hte hB
      by_cases hlt : i < n
      · have hix : i < x.length := by have := Hn.out; omega
        have hiy : i < y.length := by have := HL.out; omega
        obtain ⟨xb, xo, rfl, -, hxl, hxc⟩ := HX.out.row.elem InC.cells_len default hix
        obtain ⟨yb, yo, rfl, -, hyl, hyc⟩ := HY.out.row.elem InC.cells_len default hiy
        have hpu := HX.out.pts _ (getDmem x default hix)
        have hpv := HY.out.pts _ (getDmem y default hiy)
        have HTX := Lib.hid (take_one x default hix)
        have HTY := Lib.hid (take_one y default hiy)
        generalize x.getD i default = u at *
        generalize y.getD i default = v at *
        obtain ⟨u0, u1, u2, u3, u4, pu, cu, lu⟩ := u
        obtain ⟨v0, v1, v2, v3, v4, pv, cv, lv⟩ := v
        have hpt : ∀ W, Below w.heap.size w W → Calls Tryz.prog 62 #[.slice pu lu.length cu, .slice pv lv.length cv] W fun e w' => e = .returned (.bool (decide (lu = lv))) ∧ Below W.heap.size W w' := fun W hW => parts_any W S T pu pv cu cv lu lv (hpu.row.below' hW) (hpv.row.below' hW) hpu.few
        have f0 : wr.cell? ⟨xb, xo + i * 6, none⟩ = some (.int .i64 u0) := below_at HB.out (hxc 0 (by decide)) hxl
        have f1 : wr.cell? ⟨xb, xo + i * 6 + 1, none⟩ = some (.int .i64 u1) := below_at HB.out (hxc 1 (by decide)) hxl
        have f2 : wr.cell? ⟨xb, xo + i * 6 + 2, none⟩ = some (.int .i64 u2) := below_at HB.out (hxc 2 (by decide)) hxl
        have f3 : wr.cell? ⟨xb, xo + i * 6 + 3, none⟩ = some (.int .i64 u3) := below_at HB.out (hxc 3 (by decide)) hxl
        have f4 : wr.cell? ⟨xb, xo + i * 6 + 4, none⟩ = some (.int .i64 u4) := below_at HB.out (hxc 4 (by decide)) hxl
        have f5 : wr.cell? ⟨xb, xo + i * 6 + 5, none⟩ = some (.slice pu lu.length cu) := below_at HB.out (hxc 5 (by decide)) hxl
        have g0 : wr.cell? ⟨yb, yo + i * 6, none⟩ = some (.int .i64 v0) := below_at HB.out (hyc 0 (by decide)) hyl
        have g1 : wr.cell? ⟨yb, yo + i * 6 + 1, none⟩ = some (.int .i64 v1) := below_at HB.out (hyc 1 (by decide)) hyl
        have g2 : wr.cell? ⟨yb, yo + i * 6 + 2, none⟩ = some (.int .i64 v2) := below_at HB.out (hyc 2 (by decide)) hyl
        have g3 : wr.cell? ⟨yb, yo + i * 6 + 3, none⟩ = some (.int .i64 v3) := below_at HB.out (hyc 3 (by decide)) hyl
        have g4 : wr.cell? ⟨yb, yo + i * 6 + 4, none⟩ = some (.int .i64 v4) := below_at HB.out (hyc 4 (by decide)) hyl
        have g5 : wr.cell? ⟨yb, yo + i * 6 + 5, none⟩ = some (.slice pv lv.length cv) := below_at HB.out (hyc 5 (by decide)) hyl
        have hxl' := cell_lt f0
        have hyl' := cell_lt g0
        have hzB := HB.out.size
        have hil2 : (0 : Int) ≤ i ∧ (i : Int) < n := by omega
        have hi1 : i + 1 ≤ n := hlt
        have hms : n - (i + 1) < n - i := by omega
        have hwr1 := Lib.hid (show wrap64 ((i : Int) + 1) = ((i + 1 : Nat) : Int) by unfold wrap64; omega)
        clear hxc hyc hpu hpv
        generalize lu.length = nu at *
        generalize lv.length = nv at *
        by_cases huv : (⟨u0, u1, u2, u3, u4, lu⟩ : InS) = ⟨v0, v1, v2, v3, v4, lv⟩
        · cases huv
          rw [decide_eq_true rfl] at hpt
          go_wp2_with fail
          go_region
          all_goals
            go_wp2_with fail
            refine (hpt _ (by exact belC HB.out)).mono ?_
            rintro e w7 ⟨rfl, hB7⟩
            have HB7 := Lib.hid hB7
            clear hB7
            go_wp2_with fail
            go_roundg (n - (i + 1))
            case measure => exact hms
            case rel => exact ⟨i + 1, rfl, hi1, by first | rfl | rw [hwr1.out], by rw [HTX.out, HTY.out, List.map_append, List.map_append, HT.out]; rfl, (show Below w.heap.size w _ by exact belC HB.out).trans (HB7.out.mono (by first | omega | (simp only [World.size_alloc]; omega) | (simp; omega)))⟩
        · have hdv : dv = false := by
            rw [HDV.out]
            refine decide_eq_false (fun e => ?_)
            have h1 := congrArg (List.take (i + 1)) e
            rw [← List.map_take, ← List.map_take, HTX.out, HTY.out, List.map_append, List.map_append, HT.out] at h1
            have h2 := List.append_cancel_left h1
            exact huv (by simpa [InC.val] using h2)
          subst hdv
          have HUV := Lib.hid huv
          clear huv
          by_cases e0 : u0 = v0
          · subst e0
            by_cases e1 : u1 = v1
            · subst e1
              by_cases e2 : u2 = v2
              · subst e2
                by_cases e3 : u3 = v3
                · subst e3
                  by_cases e4 : u4 = v4
                  · subst e4
                    rw [decide_eq_false (show ¬ lu = lv from fun e => HUV.out (by rw [e]))] at hpt
                    go_wp2_with fail
                    go_region
                    all_goals
                      go_wp2_with fail
                      refine (hpt _ (by exact belC HB.out)).mono ?_
                      rintro e w7 ⟨rfl, hB7⟩
                      have HB7 := Lib.hid hB7
                      have hz7 := hB7.size
                      clear hB7
                      go_wp2_with fail
                      go_ret
                      exact ⟨rfl, (show Below w.heap.size w _ by exact belC HB.out).trans (HB7.out.mono (by first | omega | (simp only [World.size_alloc]; omega) | (simp; omega)))⟩
                  · have e4' : (u4 != v4) = true := by simp only [bne_iff_ne, ne_eq]; exact e4
                    clear e4
                    go_wp2_with fail
                    go_region
                    all_goals
                      go_wp2_with fail
                      go_ret
                      exact ⟨rfl, by exact belC HB.out⟩
                · have e3' : (u3 != v3) = true := by simp only [bne_iff_ne, ne_eq]; exact e3
                  clear e3
                  go_wp2_with fail
                  go_region
                  all_goals
                    go_wp2_with fail
                    go_ret
                    exact ⟨rfl, by exact belC HB.out⟩
              · have e2' : (u2 != v2) = true := by simp only [bne_iff_ne, ne_eq]; exact e2
                clear e2
                go_wp2_with fail
                go_region
                all_goals
                  go_wp2_with fail
                  go_ret
                  exact ⟨rfl, by exact belC HB.out⟩
            · have e1' : (u1 != v1) = true := by simp only [bne_iff_ne, ne_eq]; exact e1
              clear e1
              go_wp2_with fail
              go_region
              all_goals
                go_wp2_with fail
                go_ret
                exact ⟨rfl, by exact belC HB.out⟩
          · have e0' : (u0 != v0) = true := by simp only [bne_iff_ne, ne_eq]; exact e0
            clear e0
            go_wp2_with fail
            go_region
            all_goals
              go_wp2_with fail
              go_ret
              exact ⟨rfl, by exact belC HB.out⟩
      · obtain rfl : i = n := by omega
        have hxy : x.map InC.val = y.map InC.val := by
          have h1 := HT.out
          rw [List.take_of_length_le (by have := Hn.out; omega), List.take_of_length_le (by have := Hn.out; have := HL.out; omega)] at h1
          exact h1
        have hdv : dv = true := by rw [HDV.out]; exact decide_eq_true hxy
        subst hdv
        clear hxy
        go_wp2_with fail
        go_ret
        exact ⟨rfl, HB.out⟩
end Go.Proofs.YtpiogibkleaaaaaGreatDoor
