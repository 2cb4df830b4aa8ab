/- inode.good and inode.Table.Load of any inodes -/
import Derived.Test.YtmnkackkeppheaaGreatPkTre
import Derived.Test.YtmnkackkeppheaaGreatPkExt
import Derived.Test.YtmnkackkeppheaaGreatRKnown
import Derived.Test.YtmnkackkeppheaaGreatOpBx
namespace Esch
open Go Go.RowKit
def endV (l : List PtS) : Int := if goodP l = false ∨ l.length = 0 then 0 else (l.getD (l.length - 1) default).off + (l.getD (l.length - 1) default).len
/-- may an inode be? -/
def goodI (x : InS) : Bool := if x.links < 0 ∨ 8 < x.links ∨ x.opens < 0 ∨ 128 < x.opens ∨ x.links + x.opens < 1 then false
  else if x.kind = 1 then decide (x.opens = 0) && (decide (x.size = 0) && decide (x.ps.length = 0))
  else if x.kind = 2 then decide (0 ≤ x.size) && (decide (x.size ≤ 8192) && (goodP x.ps && decide (endV x.ps ≤ x.size))) else false
end Esch
namespace Go.Proofs.YtmnkackkeppheaaGreat
open Go.RowKit Esch Go.Shelf

set_option linter.unusedSimpArgs false
set_option maxRecDepth 100000 in
set_option maxHeartbeats 2000000 in
theorem extEnd_any (w : World) (S : Nat → Prop) (a : Option Addr) (c : Nat) (l : List PtS) (h : PtsAt w S a l) :
    Calls Tryz.prog 147 #[.slice a l.length c] w fun e w' => e = .returned (.int .i64 (endV l)) ∧ Below w.heap.size w w' := by
  have hgd := extGood_any w S a c l h
  have HX := Lib.hid h
  clear h
  unfold endV
  cases hg : goodP l
  · rw [hg] at hgd
    rw [if_pos (Or.inl rfl)]
    clear hg
    go_enter Tryz.func147, Tryz.ntmps147
    go_wp2_with fail
    refine hgd.low (fun w1 hB1 => ?_)
    go_wp2_with fail
    go_ret
    exact ⟨rfl, hB1⟩
  rw [hg] at hgd
  by_cases h0 : l.length = 0
  · rw [if_pos (Or.inr h0)]
    have h0' : ((l.length : Int) == 0) = true := by rw [h0]; rfl
    clear hg h0
    go_enter Tryz.func147, Tryz.ntmps147
    go_wp2_with fail
    refine hgd.low (fun w1 hB1 => ?_)
    go_wp2_with fail
    go_ret
    exact ⟨rfl, hB1⟩
  · rw [if_neg (by simpa using h0)]
    have hl := goodP_len hg
    have hn : l.length - 1 < l.length := by omega
    obtain ⟨n, hn1⟩ : ∃ n, n = l.length - 1 := ⟨_, rfl⟩
    have hln : l.length = n + 1 := by omega
    have hin : (l.getD n default).In := one_in.1 (goodP_one hg (by
      rw [List.getD_eq_getElem?_getD, List.getElem?_eq_getElem (by omega), Option.getD_some]
      exact List.getElem_mem (by omega)))
    have h0' : ((l.length : Int) == 0) = false := by rw [beq_eq_false_iff_ne]; omega
    rw [← hn1]
    obtain ⟨v, hv⟩ : ∃ v, v = (l.getD n default).off + (l.getD n default).len := ⟨_, rfl⟩
    rw [← hv]
    have HV := Lib.hid hv
    clear hv
    have HIN := Lib.hid hin
    have HLN := Lib.hid hln
    have hw1 : wrap64 ((l.length : Int) - 1) = (n : Int) := by unfold wrap64; omega
    have o0 := hin.o0; have ol := hin.ol; have l1 := hin.l1
    have hw2 : wrap64 ((l.getD n default).off + (l.getD n default).len) = (l.getD n default).off + (l.getD n default).len := by unfold wrap64; omega
    have hnl : (n : Int) < (l.length : Int) := by omega
    have hlt : n < l.length := by omega
    clear hg h0 hn hn1 hin hln o0 ol l1 hl
    go_enter Tryz.func147, Tryz.ntmps147
    go_wp2_with fail
    refine hgd.low (fun w1 hB1 => ?_)
    obtain ⟨xb, xo, rfl, -, hxl, hxc⟩ := (HX.out.below' hB1).elem ptC_len default hlt
    have f0 : w1.cell? ⟨xb, xo + n * 4, none⟩ = some (.int .i64 (l.getD n default).off) := hxc 0 (by decide)
    have f1 : w1.cell? ⟨xb, xo + n * 4 + 1, none⟩ = some (.int .i64 (l.getD n default).len) := hxc 1 (by decide)
    have f2 : w1.cell? ⟨xb, xo + n * 4 + 2, none⟩ = some (.int .i64 (l.getD n default).addr) := hxc 2 (by decide)
    have f3 : w1.cell? ⟨xb, xo + n * 4 + 3, none⟩ = some (.int .i64 (l.getD n default).at') := hxc 3 (by decide)
    have HB1 := Lib.hid hB1
    generalize l.getD n default = x at *
    clear hxc hB1 hgd
    go_wp2_with fail
    go_ret
    exact ⟨(show Ending.returned (Value.int .i64 (wrap64 (x.off + x.len))) = _ by rw [hw2, HV.out]), HB1.out.trans (Below.mono (by exact belC (Below.refl _ _)) HB1.out.size)⟩
set_option maxRecDepth 100000 in
set_option maxHeartbeats 8000000 in
theorem inoGood_any (w : World) (T : Nat → Prop) (x : InC) (hx : PtsAt w T x.pa x.ps) :
    Calls Tryz.prog 121 #[inCV x] w fun e w' => e = .returned (.bool (goodI x.val)) ∧ Below w.heap.size w w' := by
  obtain ⟨x0, x1, x2, x3, x4, pa, pc, lp⟩ := x
  simp only [inCV, InC.val] at hx ⊢
  obtain ⟨r, hr⟩ : ∃ r, r = goodI ⟨x0, x1, x2, x3, x4, lp⟩ := ⟨_, rfl⟩
  rw [← hr]
  unfold goodI at hr
  simp only at hr
  have HX := Lib.hid hx
  have HQ := Lib.hid hr
  clear hx hr
  by_cases h1 : x2 < 0
  · have HR : Hid (r = false) := Lib.hid (by rw [HQ.out, if_pos (Or.inl h1)])
    go_enter Tryz.func121, Tryz.ntmps121
    go_wp2_with fail
    go_ret
    exact ⟨(show Ending.returned (Value.bool false) = _ by rw [HR.out]), by exact belC (Below.refl _ _)⟩
  have n1 : decide (x2 < 0) = false := decide_eq_false h1
  by_cases h2 : 8 < x2
  · have HR : Hid (r = false) := Lib.hid (by rw [HQ.out, if_pos (Or.inr (Or.inl h2))])
    clear h1
    go_enter Tryz.func121, Tryz.ntmps121
    go_wp2_with fail
    go_ret
    exact ⟨(show Ending.returned (Value.bool false) = _ by rw [HR.out]), by exact belC (Below.refl _ _)⟩
  have n2 : decide (8 < x2) = false := decide_eq_false h2
  by_cases h3 : x3 < 0
  · have HR : Hid (r = false) := Lib.hid (by rw [HQ.out, if_pos (Or.inr (Or.inr (Or.inl h3)))])
    clear h1 h2
    go_enter Tryz.func121, Tryz.ntmps121
    go_wp2_with fail
    go_ret
    exact ⟨(show Ending.returned (Value.bool false) = _ by rw [HR.out]), by exact belC (Below.refl _ _)⟩
  have n3 : decide (x3 < 0) = false := decide_eq_false h3
  by_cases h4 : 128 < x3
  · have HR : Hid (r = false) := Lib.hid (by rw [HQ.out, if_pos (Or.inr (Or.inr (Or.inr (Or.inl h4))))])
    clear h1 h2 h3
    go_enter Tryz.func121, Tryz.ntmps121
    go_wp2_with fail
    go_ret
    exact ⟨(show Ending.returned (Value.bool false) = _ by rw [HR.out]), by exact belC (Below.refl _ _)⟩
  have n4 : decide (128 < x3) = false := decide_eq_false h4
  have hw : wrap64 (x2 + x3) = x2 + x3 := by unfold wrap64; omega
  by_cases h5 : x2 + x3 < 1
  · have HR : Hid (r = false) := Lib.hid (by rw [HQ.out, if_pos (Or.inr (Or.inr (Or.inr (Or.inr h5))))])
    clear h1 h2 h3 h4
    go_enter Tryz.func121, Tryz.ntmps121
    go_wp2_with fail
    go_ret
    exact ⟨(show Ending.returned (Value.bool false) = _ by rw [HR.out]), by exact belC (Below.refl _ _)⟩
  have n5 : decide (x2 + x3 < 1) = false := decide_eq_false h5
  have hq := HQ.out
  rw [if_neg (by omega)] at hq
  have HQ := Lib.hid hq
  clear h1 h2 h3 h4 h5 hq
  by_cases k1 : x1 = 1
  · have k1' : (x1 == 1) = true := by simpa using k1
    have HK := Lib.hid k1
    clear k1
    by_cases o0 : x3 = 0
    · have o0' : (x3 == 0) = true := by simpa using o0
      have HO := Lib.hid o0
      clear o0
      by_cases s0 : x4 = 0
      · have s0' : (x4 == 0) = true := by simpa using s0
        have HS := Lib.hid s0
        clear s0
        by_cases l0 : lp.length = 0
        · have HR : Hid (r = true) := Lib.hid (by rw [HQ.out, if_pos HK.out, decide_eq_true HO.out, decide_eq_true HS.out, decide_eq_true l0]; rfl)
          have l0' : ((lp.length : Int) == 0) = true := by simp only [l0]; rfl
          clear l0
          go_enter Tryz.func121, Tryz.ntmps121
          go_wp2_with fail
          go_ret
          exact ⟨(show Ending.returned (Value.bool true) = _ by rw [HR.out]), by exact belC (Below.refl _ _)⟩
        · have HR : Hid (r = false) := Lib.hid (by rw [HQ.out, if_pos HK.out, decide_eq_false l0, Bool.and_false, Bool.and_false])
          have l0' : ((lp.length : Int) == 0) = false := by rw [beq_eq_false_iff_ne]; omega
          clear l0
          go_enter Tryz.func121, Tryz.ntmps121
          go_wp2_with fail
          go_ret
          exact ⟨(show Ending.returned (Value.bool false) = _ by rw [HR.out]), by exact belC (Below.refl _ _)⟩
      · have HR : Hid (r = false) := Lib.hid (by rw [HQ.out, if_pos HK.out, decide_eq_false s0, Bool.false_and, Bool.and_false])
        have s0' : (x4 == 0) = false := by simpa using s0
        clear s0
        go_enter Tryz.func121, Tryz.ntmps121
        go_wp2_with fail
        go_ret
        exact ⟨(show Ending.returned (Value.bool false) = _ by rw [HR.out]), by exact belC (Below.refl _ _)⟩
    · have HR : Hid (r = false) := Lib.hid (by rw [HQ.out, if_pos HK.out, decide_eq_false o0]; rfl)
      have o0' : (x3 == 0) = false := by simpa using o0
      clear o0
      go_enter Tryz.func121, Tryz.ntmps121
      go_wp2_with fail
      go_ret
      exact ⟨(show Ending.returned (Value.bool false) = _ by rw [HR.out]), by exact belC (Below.refl _ _)⟩
  have hq := HQ.out
  rw [if_neg k1] at hq
  have HQ := Lib.hid hq
  have k1' : (x1 == 1) = false := by simpa using k1
  clear hq k1
  by_cases k2 : x1 = 2
  rotate_left 1
  · have HR : Hid (r = false) := Lib.hid (by rw [HQ.out, if_neg k2])
    have k2' : (x1 == 2) = false := by simpa using k2
    clear k2
    go_enter Tryz.func121, Tryz.ntmps121
    go_wp2_with fail
    go_ret
    exact ⟨(show Ending.returned (Value.bool false) = _ by rw [HR.out]), by exact belC (Below.refl _ _)⟩
  subst k2
  have hq := HQ.out
  rw [if_pos rfl] at hq
  have HQ := Lib.hid hq
  clear hq k1'
  obtain ⟨W1, hW1⟩ : ∃ W1, W1 = w.alloc (.cells #[.int .i64 x0, .int .i64 2, .int .i64 x2, .int .i64 x3, .int .i64 x4, .slice pa lp.length pc] 102) := ⟨_, rfl⟩
  have hB1 : Below w.heap.size w W1.drew := by rw [hW1]; exact belC (Below.refl _ _)
  have z4 : W1.drew.cell? ⟨w.heap.size, 4, none⟩ = some (.int .i64 x4) := by rw [hW1]; go_simp
  have z5 : W1.drew.cell? ⟨w.heap.size, 5, none⟩ = some (.slice pa lp.length pc) := by rw [hW1]; go_simp
  have HN : Hid (∀ W W', ((W.cell? ⟨w.heap.size, 4, none⟩ = some (.int .i64 x4) ∧ W.cell? ⟨w.heap.size, 5, none⟩ = some (.slice pa lp.length pc)) ∧ Below w.heap.size w W) → Below W.heap.size W W' → ((W'.cell? ⟨w.heap.size, 4, none⟩ = some (.int .i64 x4) ∧ W'.cell? ⟨w.heap.size, 5, none⟩ = some (.slice pa lp.length pc)) ∧ Below w.heap.size w W')) := Lib.hid (fun W W' h hB => ⟨⟨below_at hB h.1.1 (cell_lt h.1.1), below_at hB h.1.2 (cell_lt h.1.1)⟩, h.2.trans (hB.mono h.2.size)⟩)
  have hgd := fun W (hB : Below w.heap.size w W) => extGood_any W T pa pc lp (HX.out.below' hB)
  have hed := fun W (hB : Below w.heap.size w W) => extEnd_any W T pa pc lp (HX.out.below' hB)
  generalize goodP lp = g at hgd HQ
  generalize endV lp = ev at hed HQ
  have HW1 := Lib.hid hW1
  clear hW1
  go_enter Tryz.func121, Tryz.ntmps121
  by_cases s0 : 0 ≤ x4
  rotate_left 1
  · have HR : Hid (r = false) := Lib.hid (by rw [HQ.out, decide_eq_false s0]; rfl)
    have s0' : decide (0 ≤ x4) = false := decide_eq_false s0
    clear s0
    go_wp2_with fail
    rw [← HW1.out]
    refine region_kwalk (S := fun W => (W.cell? ⟨w.heap.size, 4, none⟩ = some (.int .i64 x4) ∧ W.cell? ⟨w.heap.size, 5, none⟩ = some (.slice pa lp.length pc)) ∧ Below w.heap.size w W) (by kernel_rfl) (by kernel_rfl) (by kernel_rfl) ⟨⟨z4, z5⟩, hB1⟩ ?_
    clear z4 z5 hB1
    repeat (first | refine kwL ?_ | refine kwU ?_ | refine kwC (fun W hW => (hgd W hW.2).low fun W' hB => ⟨rfl, HN.out W W' hW hB⟩) ?_ | refine kwC (fun W hW => (hed W hW.2).low fun W' hB => ⟨rfl, HN.out W W' hW hB⟩) ?_)
    refine kw_nil (fun W hW => ?_)
    have HBW := Lib.hid hW.2
    clear hW hgd hed
    go_wp2_with fail
    go_ret
    exact ⟨(show Ending.returned (Value.bool false) = _ by rw [HR.out]), HBW.out⟩
  by_cases s1 : x4 ≤ 8192
  rotate_left 1
  · have HR : Hid (r = false) := Lib.hid (by rw [HQ.out, decide_eq_false s1, Bool.false_and, Bool.and_false])
    have s1' : decide (x4 ≤ 8192) = false := decide_eq_false s1
    clear s1
    go_wp2_with fail
    rw [← HW1.out]
    refine region_kwalk (S := fun W => (W.cell? ⟨w.heap.size, 4, none⟩ = some (.int .i64 x4) ∧ W.cell? ⟨w.heap.size, 5, none⟩ = some (.slice pa lp.length pc)) ∧ Below w.heap.size w W) (by kernel_rfl) (by kernel_rfl) (by kernel_rfl) ⟨⟨z4, z5⟩, hB1⟩ ?_
    clear z4 z5 hB1
    repeat (first | refine kwL ?_ | refine kwU ?_ | refine kwC (fun W hW => (hgd W hW.2).low fun W' hB => ⟨rfl, HN.out W W' hW hB⟩) ?_ | refine kwC (fun W hW => (hed W hW.2).low fun W' hB => ⟨rfl, HN.out W W' hW hB⟩) ?_)
    refine kw_nil (fun W hW => ?_)
    have HBW := Lib.hid hW.2
    clear hW hgd hed
    go_wp2_with fail
    go_ret
    exact ⟨(show Ending.returned (Value.bool false) = _ by rw [HR.out]), HBW.out⟩
  have hq := HQ.out
  rw [decide_eq_true s0, decide_eq_true s1, Bool.true_and, Bool.true_and] at hq
  have HQ := Lib.hid hq
  clear hq
  cases g
  · have HR : Hid (r = false) := Lib.hid (by rw [HQ.out]; rfl)
    go_wp2_with fail
    rw [← HW1.out]
    refine region_kwalk (S := fun W => (W.cell? ⟨w.heap.size, 4, none⟩ = some (.int .i64 x4) ∧ W.cell? ⟨w.heap.size, 5, none⟩ = some (.slice pa lp.length pc)) ∧ Below w.heap.size w W) (by kernel_rfl) (by kernel_rfl) (by kernel_rfl) ⟨⟨z4, z5⟩, hB1⟩ ?_
    clear z4 z5 hB1
    repeat (first | refine kwL ?_ | refine kwU ?_ | refine kwC (fun W hW => (hgd W hW.2).low fun W' hB => ⟨rfl, HN.out W W' hW hB⟩) ?_ | refine kwC (fun W hW => (hed W hW.2).low fun W' hB => ⟨rfl, HN.out W W' hW hB⟩) ?_)
    refine kw_nil (fun W hW => ?_)
    have HBW := Lib.hid hW.2
    clear hW hgd hed
    go_wp2_with fail
    go_ret
    exact ⟨(show Ending.returned (Value.bool false) = _ by rw [HR.out]), HBW.out⟩
  by_cases e0 : ev ≤ x4
  · have HR : Hid (r = true) := Lib.hid (by rw [HQ.out, decide_eq_true e0]; rfl)
    go_wp2_with fail
    rw [← HW1.out]
    refine region_kwalk (S := fun W => (W.cell? ⟨w.heap.size, 4, none⟩ = some (.int .i64 x4) ∧ W.cell? ⟨w.heap.size, 5, none⟩ = some (.slice pa lp.length pc)) ∧ Below w.heap.size w W) (by kernel_rfl) (by kernel_rfl) (by kernel_rfl) ⟨⟨z4, z5⟩, hB1⟩ ?_
    clear z4 z5 hB1
    repeat (first | refine kwL ?_ | refine kwU ?_ | refine kwC (fun W hW => (hgd W hW.2).low fun W' hB => ⟨rfl, HN.out W W' hW hB⟩) ?_ | refine kwC (fun W hW => (hed W hW.2).low fun W' hB => ⟨rfl, HN.out W W' hW hB⟩) ?_)
    refine kw_nil (fun W hW => ?_)
    have HBW := Lib.hid hW.2
    clear hW hgd hed
    go_wp2_with fail
    go_ret
    exact ⟨(show Ending.returned (Value.bool true) = _ by rw [HR.out]), HBW.out⟩
  · have HR : Hid (r = false) := Lib.hid (by rw [HQ.out, decide_eq_false e0]; rfl)
    have e0' : decide (ev ≤ x4) = false := decide_eq_false e0
    clear e0
    go_wp2_with fail
    rw [← HW1.out]
    refine region_kwalk (S := fun W => (W.cell? ⟨w.heap.size, 4, none⟩ = some (.int .i64 x4) ∧ W.cell? ⟨w.heap.size, 5, none⟩ = some (.slice pa lp.length pc)) ∧ Below w.heap.size w W) (by kernel_rfl) (by kernel_rfl) (by kernel_rfl) ⟨⟨z4, z5⟩, hB1⟩ ?_
    clear z4 z5 hB1
    repeat (first | refine kwL ?_ | refine kwU ?_ | refine kwC (fun W hW => (hgd W hW.2).low fun W' hB => ⟨rfl, HN.out W W' hW hB⟩) ?_ | refine kwC (fun W hW => (hed W hW.2).low fun W' hB => ⟨rfl, HN.out W W' hW hB⟩) ?_)
    refine kw_nil (fun W hW => ?_)
    have HBW := Lib.hid hW.2
    clear hW hgd hed
    go_wp2_with fail
    go_ret
    exact ⟨(show Ending.returned (Value.bool false) = _ by rw [HR.out]), HBW.out⟩
end Go.Proofs.YtmnkackkeppheaaGreat
