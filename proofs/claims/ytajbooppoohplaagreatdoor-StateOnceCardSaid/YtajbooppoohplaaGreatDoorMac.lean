import Derived.WalkKit
import Derived.WalkSpells
import Derived.Maps.RangeWalk
import Derived.Sort.MapsRangeIn
import Derived.RangeFuncSeq
import Derived.WideKeyEntry
import Derived.StillTailTactics
import Derived.Deep.RegionHeld3
import Derived.Deep.QuietTactic
import Derived.BigQuiet
import Derived.Deep.Upon
import Derived.Deep.RegionLaw
import Derived.Deep.RegionHeld
import Derived.Deep.LoopGhost
/- tails of proofs that stand again and again: each is run where it is named -/
namespace Esch
open Go Go.RowKit
theorem mK0 {p : Prop} (h : p := by
 rcases Nat.lt_or_ge b w.heap.size with h' | h'
 · exact h'
 · simp [Array.getElem?_eq_none h'] at h) : p := h
theorem mK1 {p : Prop} (h : p := by
 by_cases h : a = b <;> simp [h]) : p := h
theorem mK2 {p : Prop} (h : p := by
 go_enter Tryz.func120, Tryz.ntmps120
 go_wp2_with fail
 go_ret2
 exact ⟨rfl, rfl⟩) : p := h
theorem mK3 {p : Prop} (h : p := by
 go_enter Tryz.func117, Tryz.ntmps117
 go_wp2_with fail
 go_ret
 exact ⟨rfl, rfl⟩) : p := h
theorem mK4 {p : Prop} (h : p := by
 clear hb
 go_enter Tryz.func119, Tryz.ntmps119
 go_wp2_with fail
 refine hsp.mono ?_
 clear hsp
 rintro e w1 ⟨rfl, hU, hM⟩
 go_wp2_with fail
 go_ret2
 exact ⟨rfl, hU, hM⟩) : p := h
theorem mK5 {p : Prop} (h : p := by
 go_wp2_with fail
 go_ret
 exact ⟨rfl, hU3, hM.trans hM3⟩) : p := h
theorem mK6 {p : Prop} (h : p := by
 go_wp2_with fail
 refine hg.mono ?_
 clear hg
 rintro e w2 ⟨rfl, rfl⟩
 go_wp2_with fail
 refine hsp.mono ?_
 clear hsp
 rintro e w3 ⟨rfl, hU3, hM3⟩
 exact mK5) : p := h
theorem mK7 {p : Prop} (h : p := by
 obtain rfl : i = s.length := by omega
 have hf : r = true := by
  rw [HR.out]
  have := Hall.out
  rw [List.take_length] at this
  have h1 := H0.out
  have h2 := H8.out
  simp only [nameL, this, Bool.and_true, Bool.and_eq_true, decide_eq_true_eq]
  omega
 have HF := Lib.hid hf
 clear hf hlt hi
 go_wp2_with fail
 go_ret
 exact ⟨by rw [HF.out]; rfl, rfl⟩) : p := h
theorem mK8 {p : Prop} (h : p := by
 go_wp2_with fail
 go_ret
 exact ⟨by rw [HNO.out]; rfl, rfl⟩) : p := h
theorem mK9 {p : Prop} (h : p := by
 go_wp2_with fail
 go_roundg (s.length - (i + 1))
 case measure => omega
 case rel => exact ⟨i + 1, rfl, by omega, by go_num, HYES.out, rfl⟩) : p := h
theorem mK10 {p : Prop} (h : p := by
 rw [run_index_string _ _ _ _ _ Tryz.underlying9, dif_pos ⟨by omega, by show (i : Int) < s.length; omega⟩]
 congr 3) : p := h
theorem mK11 {p : Prop} (h : p := by
 go_enter Tryz.func152, Tryz.ntmps152
 go_wp2_with fail
 go_ret
 exact ⟨rfl, rfl⟩) : p := h
theorem mK12 {p : Prop} (h : p := by
 go_wp2
 go_ret
 exact ⟨rfl, rfl⟩) : p := h
theorem mK13 {p : Prop} (h : p := by
 go_wp2_with fail
 go_ret2
 exact ⟨Below.refl _ _, none, 0, rfl, NmsAt.nil _ _ _, by simp, by omega⟩) : p := h
theorem mK14 {p : Prop} (h : p := by
 unfold fldL
 rw [List.getD_eq_getElem?_getD, List.getElem?_eq_none (by simp; omega)]
 rfl) : p := h
theorem mK15 {p : Prop} (h : p := by
 subst e
 rw [List.getElem?_set_self (by omega)]
 go_simp) : p := h
theorem mK16 {p : Prop} (h : p := by
 go_wp2
 all_goals
   go_ret
   refine ⟨?_, rfl⟩
   first | (simp [*]; done) | (simp; omega)) : p := h
theorem mK17 {p : Prop} (h : p := by
 go_wp2_with fail
 go_ret
 exact ⟨rfl, by exact belC (Below.refl _ _)⟩) : p := h
theorem mK18 {p : Prop} (h : p := by
 rintro e w1 ⟨rfl, rfl⟩
 exact mK17) : p := h
theorem mK19 {p : Prop} (h : p := by
 go_wp2_with fail
 go_ret
 exact ⟨rfl, hB1.trans (hB.mono hB1.size)⟩) : p := h
theorem mK20 {p : Prop} (h : p := by
 go_wp2_with fail
 refine (g1 _).mono ?_
 rintro e w1 ⟨rfl, rfl⟩
 go_wp2_with fail
 refine (g2 _).mono ?_
 rintro e w1 ⟨rfl, rfl⟩
 go_wp2_with fail
 refine (g3 _).mono ?_
 exact mK18) : p := h
theorem mK21 {p : Prop} (h : p := by
 go_wp2_with fail
 refine (g1 _).mono ?_
 rintro e w1 ⟨rfl, rfl⟩
 go_wp2_with fail
 refine (g2 _).mono ?_
 exact mK18) : p := h
theorem mK22 {p : Prop} (h : p := by
 go_wp2_with fail
 refine (g1 _).mono ?_
 exact mK18) : p := h
theorem mK23 {p : Prop} (h : p := by
 have : ¬ x.1.1 = y.1.1 := by omega
 simp [h1, h2, this]) : p := h
theorem mK24 {p : Prop} (h : p := by
 go_enter Tryz.func89, Tryz.ntmps89
 exact mK12) : p := h
theorem mK25 {p : Prop} (h : p := by
 go_enter Tryz.func143, Tryz.ntmps143
 exact mK12) : p := h
theorem mK26 {p : Prop} (h : p := by
 go_wp2_with fail
 go_ret
 exact ⟨by rw [HR.out]; rfl, rfl⟩) : p := h
theorem mK27 {p : Prop} (h : p := by
 rw [HW2.out, HW1.out]
 show ((((W.drew).alloc _).alloc _).alloc _) = Sort.grow W.drew _
 rw [Sort.alloc_eq_grow, Sort.alloc_eq_grow, Sort.alloc_eq_grow, Sort.grow_grow, Sort.grow_grow]
 rfl) : p := h
theorem mK28 {p : Prop} (h : p := by
 rw [hW2]
 show Below W1.heap.size W1.drew (W1.drew.alloc _)
 exact belC (Below.refl _ _)) : p := h
theorem mK29 {p : Prop} (h : p := by
 go_enter Tryz.func105, Tryz.ntmps105
 go_wp2_with fail
 refine (hfi _ H.out).mono ?_
 clear hfi
 rintro e w1 ⟨rfl, rfl⟩
 go_wp2_with fail
 refine (hnm _).mono ?_
 clear hnm
 rintro e w2 ⟨rfl, rfl⟩
 go_wp2_with fail
 go_ret
 exact ⟨rfl, H.out, Mod.refl _ _⟩) : p := h
theorem mK30 {p : Prop} (h : p := by
 subst hrs
 generalize (s.find d n).getD 0 = x at hfi
 generalize (s.find d n).isSome = y at hfi
 clear hm hc hl hc0 hc1
 exact mK29) : p := h
theorem mK31 {p : Prop} (h : p := by
 rw [addr_add, Nat.zero_add]
 simp [World.cell?, hb, hu]) : p := h
theorem mK32 {p : Prop} (h : p := by
 refine ⟨rfl, rfl, rfl, size_sortWorldK_c _ _ _ _ _ _ _ _, fun k hk hne => ?_⟩
 show ((w.heap.modify blk _) ++ os)[k]? = _
 rw [Array.getElem?_append_left (by simpa using hk), Array.getElem?_modify, if_neg (fun e => hne e.symm)]) : p := h
theorem mK33 {p : Prop} (h : p := by
 have := (h (i * 3 + c) (by rw [size_flatK]; omega)).1
 rw [get_flatK _ _ _ _ (by omega), show (i * 3 + c) / 3 = i by omega, show (i * 3 + c) % 3 = c by omega] at this
 exact this) : p := h
theorem mK34 {p : Prop} (h : p := by
 have h5 : d'.toList.length = l.length := by simpa using h1
 simpa [List.take_of_length_le (Nat.le_of_eq h5)] using h3) : p := h
theorem mK35 {p : Prop} (h : p := by
 rw [hf, List.flatMap_append, List.length_append]
 simpa using HG8.out) : p := h
theorem mK36 {p : Prop} (h : p := by
 have h3 := Hl.out
 simp only [List.length_append, List.length_cons] at h2
 omega) : p := h
theorem mK37 {p : Prop} (h : p := by
 refine HG.out.mod (F := (· = w.heap.size)) ⟨hg3.os, hg3.tape, hg3.output, hg3.size, fun k hk hne => hg3.block k hk (fun e => hne (by cases e; rfl))⟩ (fun k hk _ e => by omega)) : p := h
theorem mK38 {p : Prop} (h : p := by
 clear hm c1 hc
 go_enter Tryz.func44, Tryz.ntmps44
 go_wp2_with (go_at_call 90; refine (hcl _).mono ?_; rintro e w' ⟨rfl, rfl⟩)
 go_ret
 exact ⟨rfl, rfl⟩) : p := h
theorem mK39 {p : Prop} (h : p := by
 go_wp2_with (go_at_call 90; refine (hcl _).mono ?_; rintro e w' ⟨rfl, rfl⟩)
 go_ret
 exact ⟨rfl, H.out, Mod.refl _ _⟩) : p := h
theorem mK40 {p : Prop} (h : p := by
 clear hm c1
 rw [if_pos (by simp [*])] at hr
 subst hr
 go_enter Tryz.func107, Tryz.ntmps107
 exact mK39) : p := h
theorem mK41 {p : Prop} (h : p := by
 go_simp
 by_cases h0 : a = a' <;> by_cases h1 : b = b' <;> by_cases h2 : c = c' <;> by_cases h3 : d = d' <;> simp [h0, h1, h2, h3]) : p := h
theorem mK42 {p : Prop} (h : p := by
 go_wp2_with fail
 go_ret
 exact ⟨rfl, HB.out⟩) : p := h
theorem mK43 {p : Prop} (h : p := by
 have hdv : dv = true := by rw [HDV.out]; exact decide_eq_true hxy
 subst hdv
 clear hlt
 exact mK42) : p := h
theorem mK44 {p : Prop} (h : p := by
 have h1 := HT.out
 rw [List.take_of_length_le (by have := Hn.out; omega), List.take_of_length_le (by have := Hn.out; have := HL.out; omega)] at h1
 exact h1) : p := h
theorem mK45 {p : Prop} (h : p := by
 obtain rfl : i = n := by omega
 have hxy : x = y := by
  exact mK44
 exact mK43) : p := h
theorem mK46 {p : Prop} (h : p := by
 have hxl' := cell_lt f0
 have hzB := HB.out.size
 have hyl' := cell_lt g0
 have hil2 : (0 : Int) ≤ i ∧ (i : Int) < n := by omega
 have hi1 : i + 1 ≤ n := hlt
 have hms : n - (i + 1) < n - i := by omega
 have hwr1 := Lib.hid (show wrap64 ((i : Int) + 1) = ((i + 1 : Nat) : Int) by unfold wrap64; omega)
 clear htx hty hxc hyc
 cases q
 · have hdv : dv = false := by
    rw [HDV.out]
    refine decide_eq_false (fun e => ?_)
    subst e
    have h1 := HTX.out
    rw [HTY.out] at h1
    have h2 := HQ.out
    simp only [List.append_cancel_left_eq, List.cons.injEq, and_true] at h1
    rw [h1] at h2
    simp at h2
   subst hdv
   go_wp2_with fail
   go_region
   all_goals
     go_wp2_with fail
     go_ret
     exact ⟨rfl, by exact belC HB.out⟩
 · go_wp2_with fail
   go_region
   all_goals
     go_wp2_with fail
     go_roundg (n - (i + 1))
     case measure => exact hms
     case rel => exact ⟨i + 1, rfl, hi1, by first | rfl | rw [hwr1.out], by rw [HTX.out, HTY.out, HT.out, of_decide_eq_true HQ.out.symm], by exact belC HB.out⟩) : p := h
theorem mK47 {p : Prop} (h : p := by
 have f0 : wr.cell? ⟨xb, xo + i * 4, none⟩ = some (.int .i64 u0) := below_at HB.out (hxc 0 (by decide)) hxl
 have f1 : wr.cell? ⟨xb, xo + i * 4 + 1, none⟩ = some (.int .i64 u1) := below_at HB.out (hxc 1 (by decide)) hxl
 have f2 : wr.cell? ⟨xb, xo + i * 4 + 2, none⟩ = some (.int .i64 u2) := below_at HB.out (hxc 2 (by decide)) hxl
 have f3 : wr.cell? ⟨xb, xo + i * 4 + 3, none⟩ = some (.int .i64 u3) := below_at HB.out (hxc 3 (by decide)) hxl
 have g0 : wr.cell? ⟨yb, yo + i * 4, none⟩ = some (.int .i64 v0) := below_at HB.out (hyc 0 (by decide)) hyl
 have g1 : wr.cell? ⟨yb, yo + i * 4 + 1, none⟩ = some (.int .i64 v1) := below_at HB.out (hyc 1 (by decide)) hyl
 have g2 : wr.cell? ⟨yb, yo + i * 4 + 2, none⟩ = some (.int .i64 v2) := below_at HB.out (hyc 2 (by decide)) hyl
 have g3 : wr.cell? ⟨yb, yo + i * 4 + 3, none⟩ = some (.int .i64 v3) := below_at HB.out (hyc 3 (by decide)) hyl
 exact mK46) : p := h
theorem mK48 {p : Prop} (h : p := by
 go_wp2_with fail
 go_ret
 exact ⟨rfl, Below.refl _ _⟩) : p := h
theorem mK49 {p : Prop} (h : p := by
 have g2 : wr.cell? ⟨yb, yo + i * 3 + 2, none⟩ = some (.int .i64 v2) := below_at HB.out (hyc 2 (by decide)) hyl
 exact mK46) : p := h
theorem mK50 {p : Prop} (h : p := by
 have h2 : l[i]'hlt = c := by rw [List.getElem?_eq_getElem hlt] at hc; exact Option.some.inj hc
 rw [← h2]; rfl) : p := h
theorem mK51 {p : Prop} (h : p := by
 have : ∀ k : Fin 15, (fldL k).length ≤ 3 := by decide
 rw [hl]; exact this ⟨k, hk15⟩) : p := h
theorem mK52 {p : Prop} (h : p := by
 go_enter Tryz.func124, Tryz.ntmps124
 exact mK17) : p := h
theorem mK53 {p : Prop} (h : p := by
 refine wpAnyH_done (by kernel_rfl) ?_ _
 clear hHeld
 go_wp2_with fail
 go_ret
 exact ⟨rfl, HB5.out⟩) : p := h
theorem mK54 {p : Prop} (h : p := by
 go_wp2_with fail
 go_ret
 exact ⟨rfl, HB3.out⟩) : p := h
theorem mK55 {p : Prop} (h : p := by
 rintro e w3 ⟨rfl, hB3⟩
 have hB3' : Below w2.heap.size w2 w3 := ⟨hB3.os, hB3.tape, hB3.output, hB3.size, hB3.block⟩
 have c0 := below_at hB3' c0 hbl
 have c1 := below_at hB3' c1 hbl
 have c2 := below_at hB3' c2 hbl
 have c3 := below_at hB3' c3 hbl
 have c4 := below_at hB3' c4 hbl
 have c5 := below_at hB3' c5 hbl
 have c6 := below_at hB3' c6 hbl
 have c7 := below_at hB3' c7 hbl
 have c8 := below_at hB3' c8 hbl
 have c9 := below_at hB3' c9 hbl
 have c10 := below_at hB3' c10 hbl
 have c11 := below_at hB3' c11 hbl
 have HB3 := Lib.hid (HB2.out.trans (hB3'.mono HB2.out.size))
 have hbl := cell_lt c0
 clear hB3 hB3'
 try go_wp2_with fail
 refine hK.out _ _ ⟨c0, c1, c2, c3, c4, c5, c6, c7, c8, c9, c10, c11⟩ (fun hHeld => ?_)
 clear hK K
 try simp only [Act.put, List.setIfInBounds_toArray, List.set_cons_zero, List.set_cons_succ]
 refine takeL 3 ?_
 cases r
 · clear hkept hsame
   refine takeU 4 ?_
   refine takeU 5 ?_
   refine takeU 6 ?_
   refine takeU 7 ?_
   refine takeL 8 ?_
   refine takeL 9 ?_
   refine wpAnyH_done (by kernel_rfl) ?_ _
   clear hHeld
   exact mK54
 · skip
   refine takeL 4 ?_
   refine takeL 5 ?_
   refine wpAnyH_ready (rs := [6]) (by kernel_rfl) (by simp) ?_
   refine AllReadyH.cons (o := _) rfl (fun K hK => ?_) AllReadyH.nil
   go_simp
   refine (hkept _ HB3.out).mono ?_
   rintro e w4 ⟨rfl, hB4⟩
   have c0 := below_at hB4 c0 hbl
   have c1 := below_at hB4 c1 hbl
   have c2 := below_at hB4 c2 hbl
   have c3 := below_at hB4 c3 hbl
   have c4 := below_at hB4 c4 hbl
   have c5 := below_at hB4 c5 hbl
   have c6 := below_at hB4 c6 hbl
   have c7 := below_at hB4 c7 hbl
   have c8 := below_at hB4 c8 hbl
   have c9 := below_at hB4 c9 hbl
   have c10 := below_at hB4 c10 hbl
   have c11 := below_at hB4 c11 hbl
   have HB4 := Lib.hid (HB3.out.trans (hB4.mono HB3.out.size))
   have hbl := cell_lt c0
   clear hB4
   try go_wp2_with fail
   refine hK.out _ _ ⟨c0, c1, c2, c3, c4, c5, c6, c7, c8, c9, c10, c11⟩ (fun hHeld => ?_)
   clear hK K
   try simp only [Act.put, List.setIfInBounds_toArray, List.set_cons_zero, List.set_cons_succ]
   refine wpAnyH_ready (rs := [7]) (by kernel_rfl) (by simp) ?_
   refine AllReadyH.cons (o := _) rfl (fun K hK => ?_) AllReadyH.nil
   go_simp
   refine (hsame _ HB4.out).mono ?_
   rintro e w5 ⟨rfl, hB5⟩
   have c0 := below_at hB5 c0 hbl
   have c1 := below_at hB5 c1 hbl
   have c2 := below_at hB5 c2 hbl
   have c3 := below_at hB5 c3 hbl
   have c4 := below_at hB5 c4 hbl
   have c5 := below_at hB5 c5 hbl
   have c6 := below_at hB5 c6 hbl
   have c7 := below_at hB5 c7 hbl
   have c8 := below_at hB5 c8 hbl
   have c9 := below_at hB5 c9 hbl
   have c10 := below_at hB5 c10 hbl
   have c11 := below_at hB5 c11 hbl
   have HB5 := Lib.hid (HB4.out.trans (hB5.mono HB4.out.size))
   clear hB5
   try go_wp2_with fail
   refine hK.out _ _ ⟨c0, c1, c2, c3, c4, c5, c6, c7, c8, c9, c10, c11⟩ (fun hHeld => ?_)
   clear hK K
   try simp only [Act.put, List.setIfInBounds_toArray, List.set_cons_zero, List.set_cons_succ]
   refine takeL 8 ?_
   refine takeL 9 ?_
   exact mK53) : p := h
theorem mK56 {p : Prop} (h : p := by
 rintro e w1 ⟨rfl, hq⟩
 obtain rfl := hq.symm
 go_wp2_with fail
 go_ret
 exact ⟨rfl, HB1.out⟩) : p := h
theorem mK57 {p : Prop} (h : p := by
 clear hkept hsame hform hidx
 go_enter Tryz.func74, Tryz.ntmps74
 go_wp2_with fail
 rw [← HW1.out]
 refine (gk _).mono ?_
 rintro e w1 ⟨rfl, hq⟩
 obtain rfl := hq.symm
 go_wp2_with fail
 refine (g1 _).mono ?_
 rintro e w1 ⟨rfl, hq⟩
 obtain rfl := hq.symm
 go_wp2_with fail
 refine (g2 _).mono ?_
 exact mK56) : p := h
theorem mK58 {p : Prop} (h : p := by
 clear g2 hkept hsame hform hidx
 go_enter Tryz.func74, Tryz.ntmps74
 go_wp2_with fail
 rw [← HW1.out]
 refine (gk _).mono ?_
 rintro e w1 ⟨rfl, hq⟩
 obtain rfl := hq.symm
 go_wp2_with fail
 refine (g1 _).mono ?_
 exact mK56) : p := h
theorem mK59 {p : Prop} (h : p := by
 go_enter Tryz.func170, Tryz.ntmps170
 exact mK20) : p := h
theorem mK60 {p : Prop} (h : p := by
 go_enter Tryz.func97, Tryz.ntmps97
 go_wp2_with fail
 go_ret
 exact ⟨rfl, rfl⟩) : p := h
theorem mK61 {p : Prop} (h : p := by
 go_wp2_with fail
 go_ret2
 rw [HRR.out]
 exact ⟨Below.refl _ _, rfl⟩) : p := h
theorem mK62 {p : Prop} (h : p := by
 obtain ⟨xc, xs, xk, p, q, xz, xh, xo, xt, xi, xn, mp, ml, mc⟩ := x
 simp only at hk
 subst hk
 rfl) : p := h
theorem mK63 {p : Prop} (h : p := by
 refine AllReadyH.cons (o := _) rfl (fun K hK => ?_) AllReadyH.nil
 go_simp
 try go_wp2_with fail
 refine hK.out _ _ ⟨by go_simp, by go_simp, by go_simp, by go_simp, by go_simp, by go_simp, by go_simp, by go_simp, by go_simp, by go_simp⟩ (fun hHeld => ?_)
 clear hK K
 try simp only [Act.put, List.setIfInBounds_toArray, List.set_cons_zero, List.set_cons_succ]
 refine wpAnyH_ready (rs := [12]) (by kernel_rfl) (by simp) ?_
 refine AllReadyH.cons (o := _) rfl (fun K hK => ?_) AllReadyH.nil
 go_simp
 try go_wp2_with fail
 refine hK.out _ _ ⟨by go_simp, by go_simp, by go_simp, by go_simp, by go_simp, by go_simp, by go_simp, by go_simp, by go_simp, by go_simp⟩ (fun hHeld => ?_)
 clear hK K
 try simp only [Act.put, List.setIfInBounds_toArray, List.set_cons_zero, List.set_cons_succ]
 refine wpAnyH_ready (rs := [13]) (by kernel_rfl) (by simp) ?_
 refine AllReadyH.cons (o := _) rfl (fun K hK => ?_) AllReadyH.nil
 go_simp
 try go_wp2_with fail
 refine hK.out _ _ ⟨by go_simp, by go_simp, by go_simp, by go_simp, by go_simp, by go_simp, by go_simp, by go_simp, by go_simp, by go_simp⟩ (fun hHeld => ?_)
 clear hK K
 try simp only [Act.put, List.setIfInBounds_toArray, List.set_cons_zero, List.set_cons_succ]
 refine wpAnyH_done (by kernel_rfl) ?_ _
 clear hHeld
 go_wp2_with fail
 go_roundg (n - (i + 1))
 case measure => exact hms
 case rel => exact ⟨i + 1, by rw [← HN.out], by rw [← HN.out]; exact hi1, by first | rfl | rw [hwr1.out], by exact belC HB.out⟩) : p := h
theorem mK64 {p : Prop} (h : p := by
 go_enter Tryz.func155, Tryz.ntmps155
 exact mK17) : p := h
theorem mK65 {p : Prop} (h : p := by
 clear hb
 obtain ⟨g1, g2, g3, g4⟩ := hh
 try simp only [OpS.cells] at g1 g2 g3 g4
 simp only [OpS.cells]
 go_enter Tryz.func108, Tryz.ntmps108
 go_wp2_with fail
 refine region_kwalk (S := OpBx w ⟨xc, xs, xk, p, q, xz, xh, xo, xt, xi, xn, mp, ml, mc⟩) (by kernel_rfl) (by kernel_rfl) (by kernel_rfl) (OpBx.new w ⟨xc, xs, xk, p, q, xz, xh, xo, xt, xi, xn, mp, ml, mc⟩ 31).drew ?_
 repeat (first | refine kwO ?_ | refine kwU ?_ | refine kwC g1 ?_ | refine kwC g2 ?_ | refine kwC g3 ?_ | refine kwC g4 ?_)
 refine kw_nil (fun W hW => ?_)
 have HO := Lib.hid hW
 obtain ⟨c0, c1, c2, c3, c4, c5, c6, c7, c8, c9, c10, c11⟩ := hW.parts
 clear g1 g2 g3 g4 hW
 go_wp2_with fail
 go_ret
 exact ⟨rfl, HO.out.b⟩) : p := h
theorem mK66 {p : Prop} (h : p := by
 repeat (first | refine kwO ?_ | refine kwU ?_ | refine kwC g1 ?_ | refine kwC g2 ?_ | refine kwC g3 ?_ | refine kwC g4 ?_)
 refine kw_nil (fun W hW => ?_)
 have HO := Lib.hid hW
 obtain ⟨c0, c1, c2, c3, c4, c5, c6, c7, c8, c9, c10, c11⟩ := hW.parts
 clear g1 g2 g3 g4 hW
 go_wp2_with fail
 refine (gp _).low (fun wg hg => ?_)
 have HO := Lib.hid (HO.out.below hg)
 obtain ⟨c0, c1, c2, c3, c4, c5, c6, c7, c8, c9, c10, c11⟩ := HO.out.parts
 clear hg
 go_wp2_with fail
 go_ret
 exact ⟨rfl, HO.out.b⟩) : p := h
theorem mK67 {p : Prop} (h : p := by
 repeat (first | refine kwO ?_ | refine kwU ?_ | refine kwC g1 ?_ | refine kwC g2 ?_ | refine kwC g3 ?_ | refine kwC g4 ?_)
 refine kw_nil (fun W hW => ?_)
 have HO := Lib.hid hW
 obtain ⟨c0, c1, c2, c3, c4, c5, c6, c7, c8, c9, c10, c11⟩ := hW.parts
 clear g1 g2 g3 g4 hW
 go_wp2_with fail
 refine (gp _).low (fun wg hg => ?_)
 have HO := Lib.hid (HO.out.below hg)
 obtain ⟨c0, c1, c2, c3, c4, c5, c6, c7, c8, c9, c10, c11⟩ := HO.out.parts
 clear hg
 cases r1
 · go_wp2_with fail
   go_ret
   exact ⟨rfl, HO.out.b⟩
 · go_wp2_with fail
   refine (gq _).low (fun wg hg => ?_)
   have HO := Lib.hid (HO.out.below hg)
   obtain ⟨c0, c1, c2, c3, c4, c5, c6, c7, c8, c9, c10, c11⟩ := HO.out.parts
   clear hg
   go_wp2_with fail
   go_ret
   exact ⟨rfl, HO.out.b⟩) : p := h
theorem mK68 {p : Prop} (h : p := by
 obtain ⟨g1, g2, g3, g4⟩ := hh
 try simp only [OpS.cells] at g1 g2 g3 g4
 simp only [OpS.cells]
 go_enter Tryz.func108, Tryz.ntmps108
 go_wp2_with fail
 refine region_kwalk (S := OpBx w ⟨xc, xs, 11, p, q, xz, xh, xo, xt, xi, xn, mp, ml, mc⟩) (by kernel_rfl) (by kernel_rfl) (by kernel_rfl) (OpBx.new w ⟨xc, xs, 11, p, q, xz, xh, xo, xt, xi, xn, mp, ml, mc⟩ 31).drew ?_
 repeat (first | refine kwO ?_ | refine kwU ?_ | refine kwC g1 ?_ | refine kwC g2 ?_ | refine kwC g3 ?_ | refine kwC g4 ?_)
 refine kw_nil (fun W hW => ?_)
 have HO := Lib.hid hW
 obtain ⟨c0, c1, c2, c3, c4, c5, c6, c7, c8, c9, c10, c11⟩ := hW.parts
 clear g1 g2 g3 g4 hW
 go_wp2_with fail
 go_ret
 exact ⟨rfl, HO.out.b⟩) : p := h
theorem mK69 {p : Prop} (h : p := by
 obtain ⟨g1, g2, g3, g4⟩ := hh
 try simp only [OpS.cells] at g1 g2 g3 g4
 simp only [OpS.cells]
 go_enter Tryz.func108, Tryz.ntmps108
 go_wp2_with fail
 refine region_kwalk (S := OpBx w ⟨xc, xs, 12, p, q, xz, xh, xo, xt, xi, xn, mp, ml, mc⟩) (by kernel_rfl) (by kernel_rfl) (by kernel_rfl) (OpBx.new w ⟨xc, xs, 12, p, q, xz, xh, xo, xt, xi, xn, mp, ml, mc⟩ 31).drew ?_
 repeat (first | refine kwO ?_ | refine kwU ?_ | refine kwC g1 ?_ | refine kwC g2 ?_ | refine kwC g3 ?_ | refine kwC g4 ?_)
 refine kw_nil (fun W hW => ?_)
 have HO := Lib.hid hW
 obtain ⟨c0, c1, c2, c3, c4, c5, c6, c7, c8, c9, c10, c11⟩ := hW.parts
 clear g1 g2 g3 g4 hW
 go_wp2_with fail
 go_ret
 exact ⟨rfl, HO.out.b⟩) : p := h
theorem mK70 {p : Prop} (h : p := by
 go_wp2_with fail
 go_ret
 exact ⟨(show Ending.returned (Value.bool false) = _ by rw [mvAll_bad HIX.out (by rw [← HM.out]; exact HGM.out)]; rfl), HB5.out⟩) : p := h
theorem mK71 {p : Prop} (h : p := by
 go_wp2_with fail
 rw [← HW5.out]
 refine (k1 _).same ?_
 go_wp2_with fail
 refine (k2 _).same ?_
 go_wp2_with fail
 refine (k3 _).same ?_
 go_wp2_with fail
 refine (k4 _).same ?_
 exact mK70) : p := h
theorem mK72 {p : Prop} (h : p := by
 have Hv := Lib.hid hv
 clear hv
 go_enter Tryz.func110, Tryz.ntmps110
 go_wp2_with fail
 refine hsz.mono ?_
 clear hsz
 rintro e w1 ⟨rfl, rfl⟩
 go_wp2_with fail
 go_region_law
   (first
     | (go_simp; go_at_call 159; (with_reducible refine hput.mono ?_); rintro e w2 ⟨rfl, hB2⟩; have hc2 := below_at hB2 (show World.cell? w1.drew _ = _ from c0) hbl; have hf2 := (hB2.frozen (p := ⟨b, 0, none⟩) hbl).trans f0))
 all_goals go_wp2_with fail
 all_goals go_end0
 all_goals
   have hz2 : w1.heap.size ≤ w2.heap.size := hB2.size
   have hBw2 : Below w1.heap.size w1 w2 := ⟨hB2.os, hB2.tape, hB2.output, hB2.size, hB2.block⟩
   have hP2 := HP.out.keep hBw2
   refine ⟨rfl, ⟨hBb, by rw [← bs_append]; go_simp; rfl, ?_, ?_, ?_⟩, Below.setCell (hBw2.mono hBw) (by show B ≤ b; exact hBb) _⟩
   · have := hP2.c1; go_simp
   · have := hP2.f0; go_simp
   · have := hP2.f1; go_simp) : p := h
theorem mK73 {p : Prop} (h : p := by
 rw [Int.toNat_of_nonneg h0] at hc
 exact enStep h hc) : p := h
theorem mK74 {p : Prop} (h : p := by
 clear c0 c1 c2 c3 c4 c5 c6 c7 c8 c9 c10 c11
 rintro e wn ⟨rfl, hE⟩
 have HE := Lib.hid hE
 obtain ⟨c0, c1, c2, c3, c4, c5, c6, c7, c8, c9, c10, c11⟩ := HE.out.ox.parts
 clear hE
 go_wp2_with fail
 refine (rpDone_ok _ w2.heap.size pb _ HE.out.pk lenC).low (fun wz hz => ?_)
 have HZ := Lib.hid (HE.out.ox.below hz).b
 clear hz c0 c1 c2 c3 c4 c5 c6 c7 c8 c9 c10 c11
 go_wp2_with fail
 go_ret2
 refine ⟨?_, HZ.out⟩
 first | rfl | (simp only [List.append_assoc]; rfl)) : p := h
theorem mK75 {p : Prop} (h : p := by
 clear c0 c1 c2 c3 c4 c5 c6 c7 c8 c9 c10 c11
 rintro e wn ⟨rfl, hE⟩
 have HE := Lib.hid hE
 obtain ⟨c0, c1, c2, c3, c4, c5, c6, c7, c8, c9, c10, c11⟩ := HE.out.ox.parts
 clear hE
 go_wp2_with fail
 refine (enN1 HE.out xc (by omega) (by omega) lenB).mono ?_
 clear c0 c1 c2 c3 c4 c5 c6 c7 c8 c9 c10 c11
 rintro e wn ⟨rfl, hE⟩
 have HE := Lib.hid hE
 obtain ⟨c0, c1, c2, c3, c4, c5, c6, c7, c8, c9, c10, c11⟩ := HE.out.ox.parts
 clear hE
 go_wp2_with fail
 refine (enN4 HE.out xs (by omega) (by omega) lenB).mono ?_
 clear c0 c1 c2 c3 c4 c5 c6 c7 c8 c9 c10 c11
 rintro e wn ⟨rfl, hE⟩
 have HE := Lib.hid hE
 obtain ⟨c0, c1, c2, c3, c4, c5, c6, c7, c8, c9, c10, c11⟩ := HE.out.ox.parts
 clear hE
 go_wp2_with fail
 refine (enT1 HE.out p (by omega) lenB).mono ?_
 exact mK74) : p := h
theorem mK76 {p : Prop} (h : p := by
 clear c0 c1 c2 c3 c4 c5 c6 c7 c8 c9 c10 c11
 rintro e wn ⟨rfl, hE⟩
 have HE := Lib.hid hE
 obtain ⟨c0, c1, c2, c3, c4, c5, c6, c7, c8, c9, c10, c11⟩ := HE.out.ox.parts
 clear hE
 go_wp2_with fail
 refine (enN1 HE.out xc (by omega) (by omega) lenB).mono ?_
 clear c0 c1 c2 c3 c4 c5 c6 c7 c8 c9 c10 c11
 rintro e wn ⟨rfl, hE⟩
 have HE := Lib.hid hE
 obtain ⟨c0, c1, c2, c3, c4, c5, c6, c7, c8, c9, c10, c11⟩ := HE.out.ox.parts
 clear hE
 go_wp2_with fail
 refine (enN4 HE.out xs (by omega) (by omega) lenB).mono ?_
 clear c0 c1 c2 c3 c4 c5 c6 c7 c8 c9 c10 c11
 rintro e wn ⟨rfl, hE⟩
 have HE := Lib.hid hE
 obtain ⟨c0, c1, c2, c3, c4, c5, c6, c7, c8, c9, c10, c11⟩ := HE.out.ox.parts
 clear hE
 go_wp2_with fail
 refine (enT1 HE.out p (by omega) lenB).mono ?_
 clear c0 c1 c2 c3 c4 c5 c6 c7 c8 c9 c10 c11
 rintro e wn ⟨rfl, hE⟩
 have HE := Lib.hid hE
 obtain ⟨c0, c1, c2, c3, c4, c5, c6, c7, c8, c9, c10, c11⟩ := HE.out.ox.parts
 clear hE
 go_wp2_with fail
 refine (enT1 HE.out q (by omega) lenB).mono ?_
 exact mK74) : p := h
theorem mK77 {p : Prop} (h : p := by
 clear c0 c1 c2 c3 c4 c5 c6 c7 c8 c9 c10 c11
 rintro e wn ⟨rfl, hE⟩
 have HE := Lib.hid hE
 obtain ⟨c0, c1, c2, c3, c4, c5, c6, c7, c8, c9, c10, c11⟩ := HE.out.ox.parts
 clear hE
 go_wp2_with fail
 refine (enN1 HE.out xc (by omega) (by omega) lenB).mono ?_
 clear c0 c1 c2 c3 c4 c5 c6 c7 c8 c9 c10 c11
 rintro e wn ⟨rfl, hE⟩
 have HE := Lib.hid hE
 obtain ⟨c0, c1, c2, c3, c4, c5, c6, c7, c8, c9, c10, c11⟩ := HE.out.ox.parts
 clear hE
 go_wp2_with fail
 refine (enN4 HE.out xs (by omega) (by omega) lenB).mono ?_
 clear c0 c1 c2 c3 c4 c5 c6 c7 c8 c9 c10 c11
 rintro e wn ⟨rfl, hE⟩
 have HE := Lib.hid hE
 obtain ⟨c0, c1, c2, c3, c4, c5, c6, c7, c8, c9, c10, c11⟩ := HE.out.ox.parts
 clear hE
 go_wp2_with fail
 refine (enN8 HE.out xi (by omega) (by omega) lenB).mono ?_
 exact mK74) : p := h
theorem mK78 {p : Prop} (h : p := by
 rw [List.getD_eq_getElem?_getD, List.getElem?_eq_getElem hlt, Option.getD_some]
 exact List.getElem_mem hlt) : p := h
theorem mK79 {p : Prop} (h : p := by
 go_enter Tryz.func20, Tryz.ntmps20
 exact mK17) : p := h
theorem mK80 {p : Prop} (h : p := by
 go_enter Tryz.func188, Tryz.ntmps188
 go_wp2_with fail
 rw [← HW1.out]
 refine region_tail 7 (by kernel_rfl) (by kernel_rfl) (fun T hT K hK => ?_)
 simp only [List.take_succ_cons, List.take_zero]
 repeat still_step
 refine wpStill_nil (hK _ ?_)
 clear hK
 simp only [List.drop_succ_cons, List.drop_zero] at hT
 subst hT
 go_wp2_with fail
 go_ret
 exact ⟨rfl, HP2.out.1, Hm1.out.trans HP2.out.2⟩) : p := h
theorem mK81 {p : Prop} (h : p := by
 clear hm hmk h64 hml hv hp
 rcases hk with rfl | rfl
 all_goals
   go_enter Tryz.func213, Tryz.ntmps213
   go_wp2_with fail
   go_ret2
   exact ⟨rfl, H.out, Mod.refl _ _⟩) : p := h
theorem mK82 {p : Prop} (h : p := by
 go_wp2_with fail
 refine hg.mono ?_
 clear hg
 rintro e W2 ⟨⟨y0, y1, y2, y3, y4, pa, pc, lp⟩, hcv, rfl, -, hB2⟩
 simp only [InC.val] at hcv
 cases hcv
 simp only [inCV]
 have hz := hB2.size
 have hT := h.below' hB2
 go_wp2_with fail
 go_ret
 exact ⟨rfl, hT.below' (by exact belC (Below.refl _ _)), Mod.of_below (by exact belC hB2)⟩) : p := h
theorem mK83 {p : Prop} (h : p := by
 go_enter Tryz.func215, Tryz.ntmps215
 exact mK82) : p := h
theorem mK84 {p : Prop} (h : p := by
 rw [if_pos (by simp [*])] at hr
 subst hr
 clear hm c1
 go_enter Tryz.func106, Tryz.ntmps106
 exact mK39) : p := h
theorem mK85 {p : Prop} (h : p := by
 go_enter Tryz.func221, Tryz.ntmps221
 go_wp2_with fail
 go_ret
 exact ⟨rfl, rfl⟩) : p := h
theorem mK86 {p : Prop} (h : p := by
 go_enter Tryz.func218, Tryz.ntmps218
 go_wp2_with fail
 refine (hw1 _).mono ?_
 rintro e w1 ⟨rfl, rfl⟩
 go_wp2_with fail
 refine (hw2 _).mono ?_
 rintro e w2 ⟨rfl, rfl⟩
 exact mK17) : p := h
theorem mK87 {p : Prop} (h : p := by
 go_enter Tryz.func30, Tryz.ntmps30
 go_wp2_with (go_at_call 61; refine (there_any _ _).mono ?_; rintro e w' ⟨rfl, rfl⟩)
 go_ret
 exact ⟨rfl, rfl⟩) : p := h
theorem mK88 {p : Prop} (h : p := by
 go_enter Tryz.func246, Tryz.ntmps246
 exact mK17) : p := h
theorem mK89 {p : Prop} (h : p := by
 rcases Nat.eq_zero_or_pos cap with h0 | h0
 · exact h0
 · obtain ⟨b, off, e2, -⟩ := h.at' h0
   rw [e] at e2; cases e2) : p := h
theorem mK90 {p : Prop} (h : p := by
 go_roundg (l.length - (i + 1))
 case measure => exact hms
 case rel => exact ⟨i + 1, ao, cap, rfl, hlt'.out, by first | rfl | rw [hwr.out], by rw [HCT.out], by rw [HCT.out]; exact HG.out.mod (F := none') (Mod.of_below HB5.out) (fun _ _ _ => id), HB'.out.trans (HB5.out.mono HB'.out.size)⟩) : p := h
theorem mK91 {p : Prop} (h : p := by
 have hm : Mod (fun k => k = ub ∨ k = ob ∨ S k) w w1 := hM1.mono fun k _ hk => Or.inl hk
 exact hm.setCellAt (b := ob) (fun _ => Or.inr (Or.inl rfl)) _) : p := h
theorem mK92 {p : Prop} (h : p := by
 obtain ⟨u0, u1, u2, u3, u4⟩ := hU1
 have hne' : ¬ ub = ob := hne
 exact ⟨by go_simp, by go_simp, by go_simp, by go_simp, u4⟩) : p := h
theorem mK93 {p : Prop} (h : p := by
 obtain ⟨mp, mc, h1, h2⟩ := hO
 exact cell_lt (h1.1 0 (by decide))) : p := h
theorem mK94 {p : Prop} (h : p := by
 have HBB := Lib.hid hB9
 have hw9 := cell_lt z0
 have ho9 := cell_lt y0
 clear hB9
 go_wp2_with fail
 refine bodyPost_ret (v := .tuple #[.agg #[.int .i64 oc, .int .i64 os, .int .i64 ok, .string (bs op), .string (bs od), .int .i64 oz, .int .i64 oh, .int .i64 oo, .string ot, .int .i64 oi, .int .i64 on, .slice mp nl mc], .int .i64 0]) (by simp [results, Tryz.results29, go_sem, *]) rfl ?_
 refine ⟨by exact belC HB9.out, mp, mc, by rw [HNL.out]; rfl, rfl, ?_, HIN.out.cap, HIN.out.few⟩
 refine ((HGR.out.row.below' HBB.out).mod (F := (· = w.heap.size)) (by exact modC (Mod.refl _ _)) (fun k hk _ e => ?_)).sub fun _ _ _ => trivial
 rcases hk with hk | hk
 · exact hk
 · have := HS5.out; have e : k = w.heap.size := e; omega) : p := h
theorem mK95 {p : Prop} (h : p := by
 have hw9 := cell_lt z0
 clear hB9
 go_wp2_with fail
 refine bodyPost_ret (v := .tuple #[.agg (opN 0 0 0).cells.toArray, .int .i64 11]) (by simp [results, Tryz.results29, go_sem, OpS.cells, opN, bs, *]) rfl ?_
 exact ⟨by exact belC HB9.out, rfl⟩) : p := h
theorem mK96 {p : Prop} (h : p := by
 go_wp2_with fail
 go_end0
 exact ⟨rfl, rfl⟩) : p := h
theorem mK97 {p : Prop} (h : p := by
 go_wp2_with fail
 refine hm.mono ?_
 clear hm
 rintro e w1 ⟨rfl, hT, hM⟩
 go_wp2_with fail
 go_ret
 exact ⟨rfl, hT, hM⟩) : p := h
theorem mK98 {p : Prop} (h : p := by
 clear hrn hra ht hn s1 s2 dd sb lt c0
 have HBd := Lib.hid hBd
 clear hBd
 refine wp_region_held_drew (S := fun W' => W'.cell? ⟨tb, 0, none⟩ = some (.pointer (some ⟨b, 0, none⟩)) ∧ W'.cell? ⟨b, 1, none⟩ = some (.pointer (some ⟨nb, 0, none⟩)) ∧ W'.cell? ⟨xb, 0, none⟩ = some (.int .i64 xd) ∧ W'.cell? ⟨xb, 1, none⟩ = some (.string (bs xn))) (by kernel_rfl) ⟨t5, c1, x0, x1⟩ (fun hHeld => ?_)
 refine takeL 0 ?_
 refine takeL 1 ?_
 refine takeL 2 ?_
 refine takeL 3 ?_
 refine takeL 4 ?_
 refine takeL 5 ?_
 refine takeL 6 ?_
 refine takeL 7 ?_
 refine wpAnyH_ready (rs := [8]) (by kernel_rfl) (by simp) ?_
 refine AllReadyH.cons (o := _) rfl (fun K hK => ?_) AllReadyH.nil
 go_simp
 go_at_call 184
 with_reducible refine had.mono ?_
 clear had
 rintro e w2 ⟨rfl, hD2, hM2⟩
 have hMa := (Mod.of_below (F := S2) HBd.out).trans hM2
 have u0 := hMa.at t5 n2t
 have u1 := hMa.at c1 b2
 have u2 := hMa.at x0 n2x
 have u3 := hMa.at x1 n2x
 have u4 := hMa.at x2 n2x
 have u5 := hMa.at y0 n2y
 have u6 := hMa.at y1 n2y
 have HD2 := Lib.hid hD2
 have HM2 := Lib.hid hMa
 clear hD2 hM2 hMa t5 c1 p5 q5 x0 x1 x2 y0 y1 y2
 try go_wp2_with fail
 refine hK.out _ _ ⟨u0, u1, u2, u3⟩ (fun hHeld => ?_)
 clear hK K
 try simp only [Act.put, List.setIfInBounds_toArray, List.set_cons_zero, List.set_cons_succ]
 refine wpAnyH_done (by kernel_rfl) ?_ _
 go_wp2_with fail
 have HBe := Lib.hid (show Below w2.heap.size w2 w2.drew by exact belC (Below.refl _ _))
 refine wp_region_held_drew (S := fun W' => W'.cell? ⟨tb, 0, none⟩ = some (.pointer (some ⟨b, 0, none⟩)) ∧ W'.cell? ⟨b, 1, none⟩ = some (.pointer (some ⟨nb, 0, none⟩)) ∧ W'.cell? ⟨xb, 2, none⟩ = some (.int .i64 xi) ∧ W'.cell? ⟨yb, 0, none⟩ = some (.int .i64 yd) ∧ W'.cell? ⟨yb, 1, none⟩ = some (.string (bs yn))) (by kernel_rfl) ⟨u0, u1, u4, u5, u6⟩ (fun hHeld => ?_)
 refine takeL 0 ?_
 refine takeL 1 ?_
 refine takeL 2 ?_
 refine takeL 3 ?_
 refine takeL 4 ?_
 refine takeL 5 ?_
 refine takeL 6 ?_
 refine takeL 7 ?_
 refine takeL 8 ?_
 refine takeL 9 ?_
 refine wpAnyH_ready (rs := [10]) (by kernel_rfl) (by simp) ?_
 refine AllReadyH.cons (o := _) rfl (fun K hK => ?_) AllReadyH.nil
 go_simp
 go_at_call 105
 with_reducible refine (had2 _ (HD2.out.below' HBe.out)).mono ?_
 clear had2
 rintro e w3 ⟨rfl, hD3, hM3⟩
 have hMb := (Mod.of_below (F := S2) HBe.out).trans hM3
 have v0 := hMb.at u0 n2t
 have v1 := hMb.at u1 b2
 have v4 := hMb.at u4 n2x
 have v5 := hMb.at u5 n2y
 have v6 := hMb.at u6 n2y
 have HD3 := Lib.hid hD3
 have HM3 := Lib.hid (HM2.out.trans hMb)
 clear hD3 hM3 hMb u0 u1 u2 u3 u4 u5 u6
 try go_wp2_with fail
 refine hK.out _ _ ⟨v0, v1, v4, v5, v6⟩ (fun hHeld => ?_)
 clear hK K
 try simp only [Act.put, List.setIfInBounds_toArray, List.set_cons_zero, List.set_cons_succ]
 refine wpAnyH_done (by kernel_rfl) ?_ _
 go_wp2_with fail
 go_end0
 obtain ⟨h1, h2⟩ := HX.out _ _ HD3.out HM3.out
 refine Or.inl ⟨rfl, by rw [HE.out], ?_, HM.out.trans h2⟩
 rw [HE.out, ← Hrn.out, ← Hra.out]
 exact h1) : p := h
theorem mK99 {p : Prop} (h : p := by
 have hdr2 := trDrop_any w9 b S s HT.out Hok.out ⟨yd, yn, yi⟩
 simp only [spotV] at hdr2
 refine hdr2.mono ?_
 clear hdr2
 rintro e w12 ⟨rfl, hT12, hM12⟩
 clear t5 p5 q5 x0 x1 x2 y0 y1 y2
 have HRN := Lib.hid (HRN.out.mod hM12 nt np nq nx ny)
 have HM := Lib.hid (HM.out.trans hM12)
 have Hok := Lib.hid (Hok.out.drop ⟨yd, yn, yi⟩)
 have HT := Lib.hid hT12
 clear hT12 hM12
 obtain ⟨t5, p5, q5, x0, x1, x2, y0, y1, y2⟩ := HRN.out
 simp only at x0 x1 x2 y0 y1 y2
 obtain ⟨w9, hw9⟩ : ∃ w9, w9 = w12 := ⟨_, rfl⟩
 subst hw9
 go_wp2_with fail
 have HRN := Lib.hid HRN.out
 obtain ⟨sb, lt, ib, nb, S1, S2, c0, c1, ht, hn, s1, s2, dd, b1, b2⟩ := HT.out
 have hBd : Below w9.heap.size w9 w9.drew := by exact belC (Below.refl _ _)
 have had := dirDrop_any w9.drew nb S2 (s.drop ⟨yd, yn, yi⟩).n (hn.below' hBd) xd xn (Hok.out.n.nn xd) (Hok.out.n.le xd)
 have had2 := fun W hW => dirAdd_any W nb S2 ((s.drop ⟨yd, yn, yi⟩).n.drop xd xn).2 hW yd yn xi ((Hok.out.n.drop xd xn).nn yd) ((Hok.out.n.drop xd xn).le yd)
 obtain ⟨rn, hrn⟩ : ∃ rn, rn = (s.drop ⟨yd, yn, yi⟩).n.drop xd xn := ⟨_, rfl⟩
 rw [← hrn] at had had2
 obtain ⟨re, rn⟩ := rn
 simp only at had2
 obtain ⟨ra, hra⟩ : ∃ ra, ra = rn.add yd yn xi := ⟨_, rfl⟩
 rw [← hra] at had2
 obtain ⟨rf, ra⟩ := ra
 have Hrn := Lib.hid hrn
 have Hra := Lib.hid hra
 have n2t : ¬ S2 tb := fun h => nt (s2 _ h)
 have n2x : ¬ S2 xb := fun h => nx (s2 _ h)
 have n2y : ¬ S2 yb := fun h => ny (s2 _ h)
 have HX := Lib.hid (show ∀ W n', DirAt W nb S2 n' → Mod S2 w9 W → TreeAt W b S ⟨(s.drop ⟨yd, yn, yi⟩).t, n'⟩ ∧ Mod S w9 W from fun W n' h1 h2 => TreeAt.dir (s := (s.drop ⟨yd, yn, yi⟩)) sb lt c0 c1 ht s1 s2 dd b1 b2 h1 h2)
 exact mK98) : p := h
theorem mK100 {p : Prop} (h : p := by
 refine (hys _ _).mono ?_
 rintro e w9 ⟨rfl, rfl⟩
 go_wp2_with fail
 exact ⟨rfl, Or.inr ⟨_, rfl, by rw [HE.out], by rw [HE.out]; exact HT.out, HM.out⟩⟩) : p := h
theorem mK101 {p : Prop} (h : p := by
 clear t5 p5 q5 x0 x1 x2 y0 y1 y2
 have HRN := Lib.hid (HRN.out.below hB5)
 have HM := Lib.hid (HM.out.trans (Mod.of_below (F := S) hB5))
 have HT := Lib.hid (HT.out.below' hB5)
 clear hB5
 obtain ⟨t5, p5, q5, x0, x1, x2, y0, y1, y2⟩ := HRN.out
 simp only at x0 x1 x2 y0 y1 y2
 go_wp2_with fail
 exact mK100) : p := h
theorem mK102 {p : Prop} (h : p := by
 clear t5 p5 q5 x0 x1 x2 y0 y1 y2
 have HRN := Lib.hid (HRN.out.below hB5)
 have HM := Lib.hid (HM.out.trans (Mod.of_below (F := S) hB5))
 have HT := Lib.hid (HT.out.below' hB5)
 clear hB5
 obtain ⟨t5, p5, q5, x0, x1, x2, y0, y1, y2⟩ := HRN.out
 simp only at x0 x1 x2 y0 y1 y2
 go_wp2_with fail
 refine (hno _ _).mono ?_
 rintro e w9 ⟨rfl, rfl⟩
 go_wp2_with fail
 refine (hky _ HT.out).mono ?_
 rintro e w7 ⟨rfl, hB5⟩
 exact mK101) : p := h
theorem mK103 {p : Prop} (h : p := by
 clear t5 p5 q5 x0 x1 x2 y0 y1 y2
 have HRN := Lib.hid (HRN.out.below hB5)
 have HM := Lib.hid (HM.out.trans (Mod.of_below (F := S) hB5))
 have HT := Lib.hid (HT.out.below' hB5)
 clear hB5
 obtain ⟨t5, p5, q5, x0, x1, x2, y0, y1, y2⟩ := HRN.out
 simp only at x0 x1 x2 y0 y1 y2
 go_wp2_with fail
 refine (hno _ _).mono ?_
 rintro e w9 ⟨rfl, rfl⟩
 go_wp2_with fail
 refine (hfl _ HT.out).mono ?_
 rintro e w8 ⟨rfl, rfl⟩
 go_wp2_with fail
 refine (hno _ _).mono ?_
 rintro e w9 ⟨rfl, rfl⟩
 go_wp2_with fail
 have HRN := Lib.hid HRN.out
 obtain ⟨sb, lt, ib, nb, S1, S2, c0, c1, ht, hn, s1, s2, dd, b1, b2⟩ := HT.out
 have hBd : Below w9.heap.size w9 w9.drew := by exact belC (Below.refl _ _)
 have had := dirDrop_any w9.drew nb S2 s.n (hn.below' hBd) xd xn (Hok.out.n.nn xd) (Hok.out.n.le xd)
 have had2 := fun W hW => dirAdd_any W nb S2 (s.n.drop xd xn).2 hW yd yn xi ((Hok.out.n.drop xd xn).nn yd) ((Hok.out.n.drop xd xn).le yd)
 obtain ⟨rn, hrn⟩ : ∃ rn, rn = s.n.drop xd xn := ⟨_, rfl⟩
 rw [← hrn] at had had2
 obtain ⟨re, rn⟩ := rn
 simp only at had2
 obtain ⟨ra, hra⟩ : ∃ ra, ra = rn.add yd yn xi := ⟨_, rfl⟩
 rw [← hra] at had2
 obtain ⟨rf, ra⟩ := ra
 have Hrn := Lib.hid hrn
 have Hra := Lib.hid hra
 have n2t : ¬ S2 tb := fun h => nt (s2 _ h)
 have n2x : ¬ S2 xb := fun h => nx (s2 _ h)
 have n2y : ¬ S2 yb := fun h => ny (s2 _ h)
 have HX := Lib.hid (show ∀ W n', DirAt W nb S2 n' → Mod S2 w9 W → TreeAt W b S ⟨s.t, n'⟩ ∧ Mod S w9 W from fun W n' h1 h2 => TreeAt.dir (s := s) sb lt c0 c1 ht s1 s2 dd b1 b2 h1 h2)
 exact mK98) : p := h
theorem mK104 {p : Prop} (h : p := by
 go_enter Tryz.func182, Tryz.ntmps182
 go_wp2_with fail
 refine hpl.mono ?_
 clear hpl
 rintro e W2 ⟨hB2, rfl⟩
 have t2 := below_at hB2 t0 (cell_lt t0)
 have p2 := below_at hB2 p0 (cell_lt p0)
 have q2 := below_at hB2 q0 (cell_lt q0)
 have HT2 := H.out.below' hB2
 simp only [spotV]
 obtain ⟨W4, hW4⟩ : ∃ W4, W4 = W2.alloc (.cells #[.int .i64 xd, .string (bs xn), .int .i64 xi] 257) := ⟨_, rfl⟩
 have hB4 : Below W2.heap.size W2 W4 := by rw [hW4]; exact belC (Below.refl _ _)
 have x0 : W4.cell? ⟨W2.heap.size, 0, none⟩ = some (.int .i64 xd) := by rw [hW4]; go_simp
 have x1 : W4.cell? ⟨W2.heap.size, 1, none⟩ = some (.string (bs xn)) := by rw [hW4]; go_simp
 have x2 : W4.cell? ⟨W2.heap.size, 2, none⟩ = some (.int .i64 xi) := by rw [hW4]; go_simp
 have t4 := below_at hB4 t2 (cell_lt t2)
 have p4 := below_at hB4 p2 (cell_lt p2)
 have q4 := below_at hB4 q2 (cell_lt q2)
 have nx : ¬ S W2.heap.size := fun hk => by have := HT2.lt _ hk; omega
 have HT4 := Lib.hid (HT2.below' hB4)
 have HM4 := Lib.hid (Mod.of_below (F := S) (hB2.trans (hB4.mono hB2.size)))
 have HW4 := Lib.hid hW4
 obtain ⟨xb, hxb⟩ : ∃ xb, xb = W2.heap.size := ⟨_, rfl⟩
 clear HT2 hB4 hW4 t2 p2 q2 hB2
 go_wp2_with fail
 rw [← HW4.out]
 rw [← hxb] at x0 x1 x2 nx ⊢
 clear hxb HW4
 refine (hno _ _).mono ?_
 rintro e w9 ⟨rfl, rfl⟩
 go_wp2_with fail
 refine (hpq _ HT4.out).mono ?_
 clear hpq
 rintro e W5 ⟨hB5, rfl⟩
 have HT5 := HT4.out.below' hB5
 simp only [spotV]
 obtain ⟨W6, hW6⟩ : ∃ W6, W6 = W5.alloc (.cells #[.int .i64 yd, .string (bs yn), .int .i64 yi] 257) := ⟨_, rfl⟩
 have hB6 : Below W5.heap.size W5 W6 := by rw [hW6]; exact belC (Below.refl _ _)
 have ny : ¬ S W5.heap.size := fun hk => by have := HT5.lt _ hk; omega
 have hB56 := hB5.trans (hB6.mono hB5.size)
 have HRN := Lib.hid (show RnAt W6 tb pb qb xb W5.heap.size b p q ⟨xd, xn, xi⟩ ⟨yd, yn, yi⟩ from ⟨below_at hB56 t4 (cell_lt t4), below_at hB56 p4 (cell_lt p4), below_at hB56 q4 (cell_lt q4), below_at hB56 x0 (cell_lt x0), below_at hB56 x1 (cell_lt x1), below_at hB56 x2 (cell_lt x2), by rw [hW6]; go_simp, by rw [hW6]; go_simp, by rw [hW6]; go_simp⟩)
 have HT := Lib.hid (HT4.out.below' hB56)
 have HM := Lib.hid (HM4.out.trans (Mod.of_below (F := S) hB56))
 have HW6 := Lib.hid hW6
 obtain ⟨yb, hyb⟩ : ∃ yb, yb = W5.heap.size := ⟨_, rfl⟩
 rw [← hyb] at HRN ny
 have z0 := below_at hB5 x0 (cell_lt x0)
 have z1 := below_at hB5 x1 (cell_lt x1)
 have z2 := below_at hB5 x2 (cell_lt x2)
 have tz := below_at hB5 t4 (cell_lt t4)
 have pz := below_at hB5 p4 (cell_lt p4)
 have qz := below_at hB5 q4 (cell_lt q4)
 have hlx := cell_lt z0
 have hlt := cell_lt tz
 have hlp := cell_lt pz
 have hlq := cell_lt qz
 clear HT5 hB6 hW6 hB56 t4 p4 q4 x0 x1 x2 HT4 HM4 hB5
 go_wp2_with fail
 rw [← HW6.out]
 rw [← hyb]
 clear hyb HW6 z0 z1 z2 tz pz qz hlx hlt hlp hlq
 obtain ⟨t5, p5, q5, x0, x1, x2, y0, y1, y2⟩ := HRN.out
 simp only at x0 x1 x2 y0 y1 y2
 refine (hkx _ HT.out).mono ?_
 rintro e w5 ⟨rfl, hB5⟩
 exact mK103) : p := h
theorem mK105 {p : Prop} (h : p := by
 clear t5 p5 q5 x0 x1 x2 y0 y1 y2
 have HRN := Lib.hid (HRN.out.below hB5)
 have HM := Lib.hid (HM.out.trans (Mod.of_below (F := S) hB5))
 have HT := Lib.hid (HT.out.below' hB5)
 clear hB5
 obtain ⟨t5, p5, q5, x0, x1, x2, y0, y1, y2⟩ := HRN.out
 simp only at x0 x1 x2 y0 y1 y2
 go_wp2_with fail
 refine (hno _ _).mono ?_
 rintro e w9 ⟨rfl, rfl⟩
 go_wp2_with fail
 refine (hfl _ HT.out).mono ?_
 rintro e w8 ⟨rfl, rfl⟩
 go_wp2_with fail
 exact mK100) : p := h
theorem mK106 {p : Prop} (h : p := by
 go_enter Tryz.func182, Tryz.ntmps182
 go_wp2_with fail
 refine hpl.mono ?_
 clear hpl
 rintro e W2 ⟨hB2, rfl⟩
 have t2 := below_at hB2 t0 (cell_lt t0)
 have p2 := below_at hB2 p0 (cell_lt p0)
 have q2 := below_at hB2 q0 (cell_lt q0)
 have HT2 := H.out.below' hB2
 simp only [spotV]
 obtain ⟨W4, hW4⟩ : ∃ W4, W4 = W2.alloc (.cells #[.int .i64 xd, .string (bs xn), .int .i64 xi] 257) := ⟨_, rfl⟩
 have hB4 : Below W2.heap.size W2 W4 := by rw [hW4]; exact belC (Below.refl _ _)
 have x0 : W4.cell? ⟨W2.heap.size, 0, none⟩ = some (.int .i64 xd) := by rw [hW4]; go_simp
 have x1 : W4.cell? ⟨W2.heap.size, 1, none⟩ = some (.string (bs xn)) := by rw [hW4]; go_simp
 have x2 : W4.cell? ⟨W2.heap.size, 2, none⟩ = some (.int .i64 xi) := by rw [hW4]; go_simp
 have t4 := below_at hB4 t2 (cell_lt t2)
 have p4 := below_at hB4 p2 (cell_lt p2)
 have q4 := below_at hB4 q2 (cell_lt q2)
 have nx : ¬ S W2.heap.size := fun hk => by have := HT2.lt _ hk; omega
 have HT4 := Lib.hid (HT2.below' hB4)
 have HM4 := Lib.hid (Mod.of_below (F := S) (hB2.trans (hB4.mono hB2.size)))
 have HW4 := Lib.hid hW4
 obtain ⟨xb, hxb⟩ : ∃ xb, xb = W2.heap.size := ⟨_, rfl⟩
 clear HT2 hB4 hW4 t2 p2 q2 hB2
 go_wp2_with fail
 rw [← HW4.out]
 rw [← hxb] at x0 x1 x2 nx ⊢
 clear hxb HW4
 refine (hno _ _).mono ?_
 rintro e w9 ⟨rfl, rfl⟩
 go_wp2_with fail
 refine (hpq _ HT4.out).mono ?_
 clear hpq
 rintro e W5 ⟨hB5, rfl⟩
 have HT5 := HT4.out.below' hB5
 simp only [spotV]
 obtain ⟨W6, hW6⟩ : ∃ W6, W6 = W5.alloc (.cells #[.int .i64 yd, .string (bs yn), .int .i64 yi] 257) := ⟨_, rfl⟩
 have hB6 : Below W5.heap.size W5 W6 := by rw [hW6]; exact belC (Below.refl _ _)
 have ny : ¬ S W5.heap.size := fun hk => by have := HT5.lt _ hk; omega
 have hB56 := hB5.trans (hB6.mono hB5.size)
 have HRN := Lib.hid (show RnAt W6 tb pb qb xb W5.heap.size b p q ⟨xd, xn, xi⟩ ⟨yd, yn, yi⟩ from ⟨below_at hB56 t4 (cell_lt t4), below_at hB56 p4 (cell_lt p4), below_at hB56 q4 (cell_lt q4), below_at hB56 x0 (cell_lt x0), below_at hB56 x1 (cell_lt x1), below_at hB56 x2 (cell_lt x2), by rw [hW6]; go_simp, by rw [hW6]; go_simp, by rw [hW6]; go_simp⟩)
 have HT := Lib.hid (HT4.out.below' hB56)
 have HM := Lib.hid (HM4.out.trans (Mod.of_below (F := S) hB56))
 have HW6 := Lib.hid hW6
 obtain ⟨yb, hyb⟩ : ∃ yb, yb = W5.heap.size := ⟨_, rfl⟩
 rw [← hyb] at HRN ny
 have z0 := below_at hB5 x0 (cell_lt x0)
 have z1 := below_at hB5 x1 (cell_lt x1)
 have z2 := below_at hB5 x2 (cell_lt x2)
 have tz := below_at hB5 t4 (cell_lt t4)
 have pz := below_at hB5 p4 (cell_lt p4)
 have qz := below_at hB5 q4 (cell_lt q4)
 have hlx := cell_lt z0
 have hlt := cell_lt tz
 have hlp := cell_lt pz
 have hlq := cell_lt qz
 clear HT5 hB6 hW6 hB56 t4 p4 q4 x0 x1 x2 HT4 HM4 hB5
 go_wp2_with fail
 rw [← HW6.out]
 rw [← hyb]
 clear hyb HW6 z0 z1 z2 tz pz qz hlx hlt hlp hlq
 obtain ⟨t5, p5, q5, x0, x1, x2, y0, y1, y2⟩ := HRN.out
 simp only at x0 x1 x2 y0 y1 y2
 refine (hkx _ HT.out).mono ?_
 rintro e w5 ⟨rfl, hB5⟩
 clear t5 p5 q5 x0 x1 x2 y0 y1 y2
 have HRN := Lib.hid (HRN.out.below hB5)
 have HM := Lib.hid (HM.out.trans (Mod.of_below (F := S) hB5))
 have HT := Lib.hid (HT.out.below' hB5)
 clear hB5
 obtain ⟨t5, p5, q5, x0, x1, x2, y0, y1, y2⟩ := HRN.out
 simp only at x0 x1 x2 y0 y1 y2
 go_wp2_with fail
 refine (hin _).mono ?_
 rintro e w6 ⟨rfl, hB5⟩
 exact mK103) : p := h
theorem mK107 {p : Prop} (h : p := by
 have t1 := below_at hB5 t0 (cell_lt t0)
 have p1 := below_at hB5 p0 (cell_lt p0)
 have q1 := below_at hB5 q0 (cell_lt q0)
 have HT := Lib.hid (HT.out.below' hB5)
 have HM := Lib.hid (HM.out.trans (Mod.of_below (F := S) hB5))
 clear t0 p0 q0 hB5
 have t0 := t1
 have p0 := p1
 have q0 := q1
 clear t1 p1 q1
 go_wp2_with fail
 exact mK100) : p := h
theorem mK108 {p : Prop} (h : p := by
 go_wp2_with fail
 refine hf.mono ?_
 clear hf
 rintro e W2 ⟨⟨y0, y1, y2, y3, y4, pa, pc, lp⟩, hcv, rfl, -, hB2⟩
 simp only [inCV]
 have hz := hB2.size
 go_wp2_with fail
 go_ret
 exact TabPostG.keep h (by exact belC hB2) _) : p := h
theorem mK109 {p : Prop} (h : p := by
 clear hx hh l0 l1 o0 o1 hk
 go_enter Tryz.func186, Tryz.ntmps186
 exact mK108) : p := h
theorem mK110 {p : Prop} (h : p := by
 rw [List.flatMap_append, List.length_append, show ([⟨u0, u1, u2, u3⟩] : List PtS).flatMap ptC = ptC ⟨u0, u1, u2, u3⟩ from List.append_nil _]
 exact hg6.sub (fun k _ hk => by
   rcases hk with hk | hk
   · exact hk
   · show w.heap.size ≤ k; rw [hk]; simp only [World.size_alloc]; have := HBA.out.size; omega)) : p := h
theorem mK111 {p : Prop} (h : p := by
 go_enter Tryz.func191, Tryz.ntmps191
 go_wp2_with fail
 go_ret
 exact ⟨rfl, rfl⟩) : p := h
theorem mK112 {p : Prop} (h : p := by
 go_enter Tryz.func138, Tryz.ntmps138
 exact mK108) : p := h
theorem mK113 {p : Prop} (h : p := by
 rw [if_pos (by omega)] at hr
 subst hr
 clear hx hh l0 l1 o0 o1 hk
 exact mK112) : p := h
theorem mK114 {p : Prop} (h : p := by
 go_enter Tryz.func135, Tryz.ntmps135
 exact mK82) : p := h
theorem mK115 {p : Prop} (h : p := by
 rw [← hr] at hcall ⊢
 have hol1 := cell_lt d0
 clear hT hr hok
 go_enter Tryz.func75, Tryz.ntmps75
 go_wp2_with fail
 rw [← HW1.out]
 refine hcall.mono ?_
 clear hcall
 rintro e W2 ⟨rfl, hT2, hM2⟩
 have r0 := hM2.at r0 (fun h => n1 (HS1.out _ h))
 have r1 := hM2.at r1 (fun h => n1 (HS1.out _ h))
 have f0 := (hM2.frozen (p := ⟨w.heap.size + 1, 0, none⟩) hrl (fun h => n1 (HS1.out _ h))).trans f0
 have f1 := (hM2.frozen (p := ⟨w.heap.size + 1, 1, none⟩) hrl (fun h => n1 (HS1.out _ h))).trans f1
 have hrl2 := cell_lt r0
 have HT2 := Lib.hid hT2
 have HM2 := Lib.hid hM2
 clear hT2 hM2
 go_wp2_with fail
 refine (code_any _ _).mono ?_
 rintro e W3 ⟨rfl, hB3⟩
 have r0 := below_at hB3 r0 hrl2
 have r1 := below_at hB3 r1 hrl2
 have f0 := (hB3.frozen (p := ⟨w.heap.size + 1, 0, none⟩) hrl2).trans f0
 have f1 := (hB3.frozen (p := ⟨w.heap.size + 1, 1, none⟩) hrl2).trans f1
 have hrl3 := cell_lt r0
 have HB3 := Lib.hid hB3
 clear hB3
 go_wp2_with fail
 refine bodyPost_ret (v := .agg #[.int .i64 r.1, .int .i64 0]) (by simp [results, Tryz.results75, go_sem, *]) rfl ?_
 refine ⟨rfl, tree_done HI.out HM1.out (HT2.out.grow W1) HM2.out ?_ (by omega) HLT.out sb HS1.out HS2.out so sm⟩
 exact (((Mod.of_below (F := (· = w.heap.size + 1)) HB3.out)).setCellAt (fun _ => rfl) _).setCellAt (fun _ => rfl) _) : p := h
theorem mK116 {p : Prop} (h : p := by
 go_enter Tryz.func38, Tryz.ntmps38
 go_wp2_with fail
 go_ret
 exact ⟨rfl, rfl⟩) : p := h
theorem mK117 {p : Prop} (h : p := by
 go_enter Tryz.func10, Tryz.ntmps10
 go_wp2_with fail
 rw [← HW1.out]
 refine bodyPost_ret (v := .tuple #[.agg #[.int .i64 0, .int .i64 0], .bool false, .int .i64 1]) (by simp [results, Tryz.results10, go_sem, *]) rfl ?_
 exact ⟨rfl, HC.out.done⟩) : p := h
theorem mK118 {p : Prop} (h : p := by
 refine takeL 16 ?_
 refine wpAnyH_done (by kernel_rfl) ?_ _
 clear hHeld
 have HC5 : Hid (StCur w W4.drew b tb hb ob mb S S1 S2 { s with next := s.next + 1 }) := Lib.hid (HC4.out.other (F := none') ((Mod.refl none' _).drew) (fun _ h => h.elim) (fun _ _ => id))
 go_wp2_with fail
 refine bodyPost_ret (v := .tuple #[.agg #[.int .i64 0, .int .i64 0], .bool false, .int .i64 0]) (by simp [results, Tryz.results10, go_sem, *]) rfl ?_
 exact ⟨rfl, (HC5.out.other (F := (· = w.heap.size)) (((Mod.refl (· = w.heap.size) _).setCellAt (fun _ => rfl) _).setCellAt (fun _ => rfl) _) (fun k hk => by have e : k = w.heap.size := hk; omega) (fun k hk e => NS1.out k (by have e : k = w.heap.size := e; omega) (by have e : k = w.heap.size := e; omega) hk)).done⟩) : p := h
theorem mK119 {p : Prop} (h : p := by
 refine takeL 5 ?_
 refine takeL 6 ?_
 refine takeU 7 ?_
 refine takeU 8 ?_
 refine takeU 9 ?_
 refine takeU 10 ?_
 refine takeU 11 ?_
 refine takeU 12 ?_
 refine takeU 13 ?_
 refine takeU 14 ?_
 refine takeU 15 ?_
 exact mK118) : p := h
theorem mK120 {p : Prop} (h : p := by
 have h1 := hf k hk
 have h2 := cell_lt h1
 rw [hW2, HW1.out]
 have h3 : ¬ (0 : Nat) = b := fun e => hS0 (by rw [e]; exact HC.out.sb)
 go_simp) : p := h
theorem mK121 {p : Prop} (h : p := by
 have h1 := (mem_iff_get hn e.1 e.2).1 he
 have h2 := (mem_iff_get hn k v).1 hk
 rw [h, h2] at h1
 cases e; simp only at h h1; rw [h, Option.some.inj h1]) : p := h
theorem mK122 {p : Prop} (h : p := by
 go_enter Tryz.func220, Tryz.ntmps220
 go_wp2_with fail
 go_ret
 exact ⟨rfl, rfl⟩) : p := h
theorem mK123 {p : Prop} (h : p := by
 go_wp2_with fail
 go_roundg (pre ++ post).length
 case measure => show _ < _; rw [HL.out]; simp
 case rel => rw [← HW6.out]; exact ⟨seen ++ [(k, (v0, v1))], pre ++ post, rfl, HR6.out, HPN.out, HB6.out⟩) : p := h
theorem mK124 {p : Prop} (h : p := by
 rintro (h | h | h)
 · exact Or.inr (Or.inl h)
 · exact Or.inl h
 · exact Or.inr (Or.inr h)) : p := h
theorem mK125 {p : Prop} (h : p := by
 go_wp2_with fail
 go_ret2
 exact ⟨none, 0, rfl, GRowAt.nil _ _ _ _, HB2.out⟩) : p := h
theorem mK126 {p : Prop} (h : p := by
 rw [← hX]
 clear hX hMX x0 x1 y0 y1 c0 c1 c2 c3 c4 c5 c6 c7 c8 c9 c10 c11
 try go_wp2_with fail
 refine hK.out _ _ ⟨q0, q1, q2, q3, q4, q5, q6, q7, q8, q9, q10, q11⟩ (fun hHeld => ?_)
 clear hK K
 try simp only [Act.put, List.setIfInBounds_toArray, List.set_cons_zero, List.set_cons_succ]
 refine wpAnyH_done (by kernel_rfl) ?_ _
 clear hHeld
 obtain ⟨ob2, mb2, hon, hom, hc2, hT2, hb2, hup⟩ := HSX.out.onc
 have hno := onceNote_any oc os d.1.1 d.1.2 X.drew ob2 mb2 d.2.o (hon.mod (F := none') ((Mod.refl none' _).drew) id id) hom
 obtain ⟨nv, hnv⟩ : ∃ nv, nv = onote d.2.o oc os (d.1.1, d.1.2) := ⟨_, rfl⟩
 rw [← hnv] at hno
 have HFV : Hid ((onote d.2.o oc os d.1).2 = nv.2) := Lib.hid (by rw [hnv])
 have HUP := Lib.hid hup
 have hbX := cell_lt hc2
 have hpX := cell_lt q0
 have hxX := cell_lt x0'
 have hrl := cell_lt r0
 clear hon hup hnv q2 q3 q4 q5 q6 q7 q8 q9 q10 q11
 go_wp2_with fail
 refine wp_region_held_drew (S := fun W' => W'.cell? ⟨b, 2, none⟩ = some (.pointer (some ⟨ob2, 0, none⟩)) ∧ W'.cell? ⟨W3.heap.size, 0, none⟩ = some (.int .i64 oc) ∧ W'.cell? ⟨W3.heap.size, 1, none⟩ = some (.int .i64 os) ∧ W'.cell? ⟨rb, 0, none⟩ = some (.int .i64 d.1.1) ∧ W'.cell? ⟨rb, 1, none⟩ = some (.int .i64 d.1.2)) (by kernel_rfl) ⟨hc2, q0, q1, x0', x1'⟩ (fun hHeld => ?_)
 refine takeL 0 ?_
 refine takeL 1 ?_
 refine takeL 2 ?_
 refine takeL 3 ?_
 refine takeL 4 ?_
 refine takeL 5 ?_
 refine takeL 6 ?_
 refine takeL 7 ?_
 refine takeL 8 ?_
 refine wpAnyH_ready (rs := [9]) (by kernel_rfl) (by simp) ?_
 refine AllReadyH.cons (o := _) rfl (fun K hK => ?_) AllReadyH.nil
 go_simp
 refine hno.mono ?_
 clear hno
 rintro e Z ⟨rfl, hZo, hZM⟩
 have nm0 : ¬ w.heap.size = mb2 := fun e => nwT (by rw [e]; exact hT2)
 have nm1 : ¬ W3.heap.size = mb2 := fun e => npT (by rw [e]; exact hT2)
 have nm2 : ¬ rb = mb2 := fun e => nrT (by rw [e]; exact hT2)
 have hc2 := hZM.at hc2 hb2
 have q0 := hZM.at q0 nm1
 have q1 := hZM.at q1 nm1
 have x0' := hZM.at x0' nm2
 have x1' := hZM.at x1' nm2
 have r0 := hZM.at r0 nm0
 have r1 := hZM.at r1 nm0
 have f0 := (hZM.frozen (p := ⟨w.heap.size, 0, none⟩) hrl nm0).trans f0
 have f1 := (hZM.frozen (p := ⟨w.heap.size, 1, none⟩) hrl nm0).trans f1
 have hrl := cell_lt r0
 have hxl := cell_lt x0'
 have hZM' : Mod (· = mb2) X Z := ⟨hZM.os, hZM.tape, hZM.output, hZM.size, hZM.block⟩
 have HSZ := Lib.hid (HUP.out Z nv.2 hZo hZM')
 have HMZ : Hid (Mod S w Z) := Lib.hid (HMX.out.trans' hZM' (fun k hk e => by
   have e : k = mb2 := e
   subst e
   exact hT2.elim id (fun h => by omega)))
 have hzZ := hZM'.size
 clear hZo hZM hZM'
 try go_wp2_with fail
 refine hK.out _ _ ⟨hc2, q0, q1, x0', x1'⟩ (fun hHeld => ?_)
 clear hK K
 try simp only [Act.put, List.setIfInBounds_toArray, List.set_cons_zero, List.set_cons_succ]
 refine wpAnyH_done (by kernel_rfl) ?_ _
 clear hHeld
 go_wp2_with fail
 refine bodyPost_ret (v := .tuple #[.agg #[.int .i64 d.1.1, .int .i64 d.1.2], .bool true, .int .i64 0]) (by simp [results, Tryz.results10, go_sem, *]) rfl ?_
 have hMf : Mod (· = w.heap.size) Z ((Z.setCell ⟨w.heap.size, 0, none⟩ (.int .i64 d.1.1)).setCell ⟨w.heap.size, 1, none⟩ (.int .i64 d.1.2)) := ((Mod.refl (· = w.heap.size) Z).setCellAt (fun _ => rfl) _).setCellAt (fun _ => rfl) _
 have hzf := hMf.size
 refine ⟨rfl, (show SttAt _ b _ { d.2 with o := (onote d.2.o oc os d.1).2 } from by
   rw [HFV.out]
   exact (HSZ.out.mod hMf (fun k hk e => nwT (by rw [← e]; exact hk))).wide (fun k hk => by
     rcases hk with hk | hk
     · exact Or.inl hk
     · exact Or.inr ⟨by omega, by omega⟩) (fun k hk => by
     rcases hk with hk | hk
     · have := HLT.out k hk; omega
     · exact hk.2)), HMZ.out.trans' hMf (fun k hk e => by have e : k = w.heap.size := e; omega)⟩) : p := h
theorem mK127 {p : Prop} (h : p := by
 have nwT := NT.out w.heap.size (Nat.le_refl _) (by omega)
 have npT := NT.out W3.heap.size (by omega) (by omega)
 have hpr : ¬ W3.heap.size = rb := by omega
 have hwr : ¬ w.heap.size = rb := by omega
 have hMX : Mod (· = rb) U3 X := by rw [hX]; exact ((Mod.refl (· = rb) U3).setCellAt (fun _ => rfl) _).setCellAt (fun _ => rfl) _
 have hzX := hMX.size
 have HSX := Lib.hid (HSv.out.mod hMX (fun k hk e => nrT (by rw [← e]; exact hk)))
 have HMX := Lib.hid (HMo.out.trans' hMX (fun k hk e => by have e : k = rb := e; omega))
 have q0 := hMX.at c0 hpr
 have q1 := hMX.at c1 hpr
 have q2 := hMX.at c2 hpr
 have q3 := hMX.at c3 hpr
 have q4 := hMX.at c4 hpr
 have q5 := hMX.at c5 hpr
 have q6 := hMX.at c6 hpr
 have q7 := hMX.at c7 hpr
 have q8 := hMX.at c8 hpr
 have q9 := hMX.at c9 hpr
 have q10 := hMX.at c10 hpr
 have q11 := hMX.at c11 hpr
 have r0 := hMX.at r0 hwr
 have f0 := (hMX.frozen (p := ⟨w.heap.size, 0, none⟩) hrl hwr).trans f0
 have r1 := hMX.at r1 hwr
 have f1 := (hMX.frozen (p := ⟨w.heap.size, 1, none⟩) hrl hwr).trans f1
 have x0' : X.cell? ⟨rb, 0, none⟩ = some (.int .i64 d.1.1) := by rw [hX]; go_simp
 have x1' : X.cell? ⟨rb, 1, none⟩ = some (.int .i64 d.1.2) := by rw [hX]; go_simp
 go_simp
 exact mK126) : p := h
theorem mK128 {p : Prop} (h : p := by
 refine wpAnyH_ready (rs := [7]) (by kernel_rfl) (by simp) ?_
 refine AllReadyH.cons (o := _) rfl (fun K hK => ?_) AllReadyH.nil
 go_simp
 refine (hdo U2 HSt.out HIN.out).mono ?_
 rintro e U3 ⟨rfl, hSv, hMv⟩
 have c0 := hMv.at c0 npS
 have c1 := hMv.at c1 npS
 have c2 := hMv.at c2 npS
 have c3 := hMv.at c3 npS
 have c4 := hMv.at c4 npS
 have c5 := hMv.at c5 npS
 have c6 := hMv.at c6 npS
 have c7 := hMv.at c7 npS
 have c8 := hMv.at c8 npS
 have c9 := hMv.at c9 npS
 have c10 := hMv.at c10 npS
 have c11 := hMv.at c11 npS
 have r0 := hMv.at r0 nwS
 have f0 := (hMv.frozen (p := ⟨w.heap.size, 0, none⟩) hrl nwS).trans f0
 have r1 := hMv.at r1 nwS
 have f1 := (hMv.frozen (p := ⟨w.heap.size, 1, none⟩) hrl nwS).trans f1
 have x0 := hMv.at x0 nxS
 have y0 := (hMv.frozen (p := ⟨rb, 0, none⟩) hxl nxS).trans y0
 have x1 := hMv.at x1 nxS
 have y1 := (hMv.frozen (p := ⟨rb, 1, none⟩) hxl nxS).trans y1
 have HSv := Lib.hid hSv
 have HMo := Lib.hid (HMo.out.trans hMv)
 have NT : Hid (∀ k, w.heap.size ≤ k → k < U2.heap.size → ¬ growI S U2 U3 k) := Lib.hid (fun k h1 h2 h => h.elim (NS.out k h1) (fun h => by omega))
 have hzc := hMv.size
 have hol4 := cell_lt c0
 have hrl := cell_lt r0
 have hxl := cell_lt x0
 clear hSv hMv
 try go_wp2_with fail
 refine hK.out _ _ ⟨c0, c1, c2, c3, c4, c5, c6, c7, c8, c9, c10, c11⟩ (fun hHeld => ?_)
 clear hK K
 try simp only [Act.put, List.setIfInBounds_toArray, List.set_cons_zero, List.set_cons_succ]
 refine wpAnyH_ready (rs := [9]) (by kernel_rfl) (by simp) ?_
 refine AllReadyH.cons (o := _) rfl (fun K hK => ?_) AllReadyH.nil
 go_simp
 obtain ⟨X, hX⟩ : ∃ X, X = (U3.setCell ⟨rb, 0, none⟩ (.int .i64 d.1.1)).setCell ⟨rb, 1, none⟩ (.int .i64 d.1.2) := ⟨_, rfl⟩
 have nrT : ¬ growI S U2 U3 rb := NT.out rb (by omega) (by omega)
 exact mK127) : p := h
theorem mK129 {p : Prop} (h : p := by
 rw [if_pos hk]
 subst hk
 exact apply_junk w b S s h hok addr text hts hf hS0 ha ha2) : p := h
theorem mK130 {p : Prop} (h : p := by
 rw [if_pos hc]
 exact apply_arg w b S s h addr kind text hc) : p := h
theorem mK131 {p : Prop} (h : p := by
 go_enter Tryz.func34, Tryz.ntmps34
 exact mK17) : p := h
theorem mK132 {p : Prop} (h : p := by
 congr 2
 rw [Bool.eq_iff_iff]
 simp [first, List.range, List.range.loop]) : p := h
theorem mK133 {p : Prop} (h : p := by
 clear HRES
 go_wp2_with fail
 go_ret
 exact ⟨rfl, HB5.out⟩) : p := h
theorem mK134 {p : Prop} (h : p := by
 obtain rfl : res = false := by rw [HRES.out]; simp
 exact mK133) : p := h
theorem mK135 {p : Prop} (h : p := by
 repeat' split
 all_goals first | exact Nat.le_succ _ | exact set_len _ _ _) : p := h
theorem mK136 {p : Prop} (h : p := by
 repeat' split
 all_goals first | exact Nat.le_succ _ | exact keep_len' _ _ _) : p := h
theorem mK137 {p : Prop} (h : p := by
 go_wp2_with fail
 go_ret
 exact ⟨(show Ending.returned (Value.bool false) = _ by rw [HBAD.out]), HB2.out⟩) : p := h
theorem mK138 {p : Prop} (h : p := by
 go_wp2_with fail
 refine (wakes25_any _ (HF.out.below HX.out HW.out) (Nat.lt_of_lt_of_le HW.out HX.out.size)).low (fun wv hv => ?_)
 have HV := Lib.hid (HX.out.trans (hv.mono HX.out.size))
 clear hv
 go_wp2_with fail
 go_ret
 exact ⟨rfl, HV.out⟩) : p := h
end Esch
