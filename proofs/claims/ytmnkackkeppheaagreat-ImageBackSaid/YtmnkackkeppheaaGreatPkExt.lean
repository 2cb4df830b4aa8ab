import Derived.Test.YtmnkackkeppheaaGreatPkHdm
import Derived.Test.YtmnkackkeppheaaGreatPkIno
/- package extent: joins, Good -/
namespace Esch
open Go
theorem goodP_bad {l : List PtS} {i : Nat} (hi : i < l.length) (h : okAt l i = false) : goodP l = false := by
  unfold goodP
  cases e : (List.range l.length).all (okAt l) with
  | false => rw [Bool.and_false]
  | true =>
    have := List.all_eq_true.1 e i (List.mem_range.2 hi)
    rw [h] at this
    cases this
theorem goodP_ok {l : List PtS} (h : l.length ≤ 64) (ha : ∀ j, j < l.length → okAt l j = true) : goodP l = true := by
  unfold goodP
  rw [decide_eq_true h, Bool.true_and]
  exact List.all_eq_true.2 fun j hj => ha j (List.mem_range.1 hj)
end Esch
namespace Go.Proofs.YtmnkackkeppheaaGreat
open Go.RowKit Esch Go.Shelf

set_option maxRecDepth 100000 in
set_option maxHeartbeats 2000000 in
theorem joins_any (w : World) (a b : PtS) (ha : a.In) : Calls Tryz.prog 164 #[ptV a, ptV b] w fun e w' => e = .returned (.bool (joinsB a b)) ∧ Below w.heap.size w w' := by
  obtain ⟨a0, a1, a2, a3⟩ := a
  obtain ⟨b0, b1, b2, b3⟩ := b
  obtain ⟨o0, l1, l2, ol, q0, ql, d0, d1⟩ := ha
  simp only at o0 l1 l2 ol q0 ql d0 d1
  have hw1 : wrap64 (a0 + a1) = a0 + a1 := by unfold wrap64; omega
  have hw2 : wrap64 (a3 + a1) = a3 + a1 := by unfold wrap64; omega
  unfold joinsB ptV
  simp only
  clear o0 l1 l2 ol q0 ql d0 d1
  by_cases h1 : a0 + a1 = b0
  · by_cases h2 : a2 = b2
    · by_cases h3 : a3 + a1 = b3
      · rw [decide_eq_true h1, decide_eq_true h2, decide_eq_true h3, Bool.true_and, Bool.true_and]
        have e1 : (a0 + a1 == b0) = true := by simpa using h1
        have e2 : (a2 == b2) = true := by simpa using h2
        have e3 : (a3 + a1 == b3) = true := by simpa using h3
        clear h1 h2 h3
        go_enter Tryz.func164, Tryz.ntmps164
        go_wp2_with fail
        go_ret
        exact ⟨rfl, by exact belC (Below.refl _ _)⟩
      · rw [decide_eq_true h1, decide_eq_true h2, decide_eq_false h3, Bool.true_and, Bool.true_and]
        have e1 : (a0 + a1 == b0) = true := by simpa using h1
        have e2 : (a2 == b2) = true := by simpa using h2
        have e3 : (a3 + a1 == b3) = false := by simpa using h3
        clear h1 h2 h3
        go_enter Tryz.func164, Tryz.ntmps164
        go_wp2_with fail
        go_ret
        exact ⟨rfl, by exact belC (Below.refl _ _)⟩
    · rw [decide_eq_true h1, decide_eq_false h2, Bool.true_and, Bool.false_and]
      have e1 : (a0 + a1 == b0) = true := by simpa using h1
      have e2 : (a2 == b2) = false := by simpa using h2
      clear h1 h2
      go_enter Tryz.func164, Tryz.ntmps164
      go_wp2_with fail
      go_ret
      exact ⟨rfl, by exact belC (Below.refl _ _)⟩
  · rw [decide_eq_false h1, Bool.false_and, Bool.false_and]
    have e1 : (a0 + a1 == b0) = false := by simpa using h1
    clear h1
    go_enter Tryz.func164, Tryz.ntmps164
    go_wp2_with fail
    go_ret
    exact ⟨rfl, by exact belC (Below.refl _ _)⟩
def GdRel (w : World) (l : List PtS) (g : Nat) (v10 : Value) (wr : World) : Prop := ∃ i : Nat, g = l.length - i ∧ i ≤ l.length ∧ v10 = .int .i64 i ∧ (∀ j, j < i → okAt l j = true) ∧ Below w.heap.size w wr
set_option linter.unusedSimpArgs false in
set_option maxRecDepth 100000 in
set_option maxHeartbeats 8000000 in
theorem extGood_any (w : World) (S : Nat → Prop) (a : Option Addr) (c : Nat) (l : List PtS) (h : PtsAt w S a l) :
    Calls Tryz.prog 146 #[.slice a l.length c] w fun e w' => e = .returned (.bool (goodP l)) ∧ Below w.heap.size w w' := by
  by_cases h64 : 64 < l.length
  · have h64' : (64 : Int) < l.length := by omega
    rw [show goodP l = false by unfold goodP; rw [decide_eq_false (by omega), Bool.false_and]]
    go_enter Tryz.func146, Tryz.ntmps146
    go_wp2_with fail
    go_ret
    exact ⟨rfl, Below.refl _ _⟩
  · have h64' : ¬ (64 : Int) < l.length := by omega
    have h64b : decide (64 < l.length) = false := decide_eq_false h64
    have HX := Lib.hid h
    obtain ⟨gv, hgv⟩ : ∃ gv, gv = goodP l := ⟨_, rfl⟩
    rw [← hgv]
    have HGV := Lib.hid hgv
    obtain ⟨n, hn⟩ : ∃ n, n = l.length := ⟨_, rfl⟩
    have HN := Lib.hid hn
    have Hn64 := Lib.hid (show n ≤ 64 by omega)
    rw [← hn] at h64 h64' h64b ⊢
    clear h hgv hn h64
    go_enter Tryz.func146, Tryz.ntmps146
    go_wp2_with fail
    clear h64' h64b
    go_loopg [10] n (fun g s10 wr => GdRel w l g s10 wr)
    case atStart => exact ⟨0, by rw [← HN.out]; rfl, Nat.zero_le _, rfl, fun j hj => absurd hj (by omega), Below.refl _ _⟩
    case round =>
      obtain ⟨i, hg, hi, rfl, hok, hB⟩ := hrel
      rw [← HN.out] at hg hi
      subst hg
      have HB := Lib.hid hB
      clear hB
      by_cases hlt : i < n
      · have hix : i < l.length := by have := HN.out; omega
        obtain ⟨xb, xo, rfl, -, hxl, hxc⟩ := HX.out.elem ptC_len default hix
        have HPV : Hid (∀ k, i = k + 1 → ∀ j, j < 4 → wr.cell? ⟨xb, xo + k * 4 + j, none⟩ = (ptC (l.getD k default))[j]?) := Lib.hid (fun k hk j hj => by
          obtain ⟨xb', xo', e, -, hxl', hxc'⟩ := HX.out.elem ptC_len default (i := k) (by omega)
          cases e
          exact ((HB.out.cell (p := ⟨xb, xo + k * 4 + j, none⟩) hxl')).trans (hxc' j hj))
        have HOKI : Hid (okAt l i = ((l.getD i default).one && (decide (i = 0) || stepB (l.getD (i - 1) default) (l.getD i default)))) := Lib.hid rfl
        have HPI : Hid (∀ k, i = k + 1 → (l.getD k default).one = true) := Lib.hid (fun k hk => by
          have := hok k (by omega)
          unfold okAt at this
          rw [Bool.and_eq_true] at this
          exact this.1)
        have HOK0 := Lib.hid hok
        have HBAD := Lib.hid (fun hb => (goodP_bad (l := l) hix hb))
        generalize hu : l.getD i default = u at *
        obtain ⟨u0, u1, u2, u3⟩ := u
        have f0 : wr.cell? ⟨xb, xo + i * 4, none⟩ = some (.int .i64 u0) := below_at HB.out (hxc 0 (by decide)) hxl
        have f1 : wr.cell? ⟨xb, xo + i * 4 + 1, none⟩ = some (.int .i64 u1) := below_at HB.out (hxc 1 (by decide)) hxl
        have f2 : wr.cell? ⟨xb, xo + i * 4 + 2, none⟩ = some (.int .i64 u2) := below_at HB.out (hxc 2 (by decide)) hxl
        have f3 : wr.cell? ⟨xb, xo + i * 4 + 3, none⟩ = some (.int .i64 u3) := below_at HB.out (hxc 3 (by decide)) hxl
        have hxl' := cell_lt f0
        have hil2 : (0 : Int) ≤ i ∧ (i : Int) < n := by omega
        have hi1 : i + 1 ≤ n := hlt
        have hms : n - (i + 1) < n - i := by omega
        have hwr1 := Lib.hid (show wrap64 ((i : Int) + 1) = ((i + 1 : Nat) : Int) by have := Hn64.out; unfold wrap64; omega)
        obtain ⟨W1, hW1⟩ : ∃ W1, W1 = wr.alloc (.cells #[.int .i64 u0, .int .i64 u1, .int .i64 u2, .int .i64 u3] 94) := ⟨_, rfl⟩
        have hB1 : Below wr.heap.size wr W1 := by rw [hW1]; exact belC (Below.refl _ _)
        have e0 : W1.drew.cell? ⟨wr.heap.size, 0, none⟩ = some (.int .i64 u0) := by rw [hW1]; go_simp
        have e1 : W1.drew.cell? ⟨wr.heap.size, 1, none⟩ = some (.int .i64 u1) := by rw [hW1]; go_simp
        have e2 : W1.drew.cell? ⟨wr.heap.size, 2, none⟩ = some (.int .i64 u2) := by rw [hW1]; go_simp
        have e3 : W1.drew.cell? ⟨wr.heap.size, 3, none⟩ = some (.int .i64 u3) := by rw [hW1]; go_simp
        have hbx := cell_lt e0
        have HW1 := Lib.hid hW1
        have HB1 := Lib.hid hB1
        have HBW := Lib.hid (HB.out.trans (hB1.mono HB.out.size))
        have hone := one_any W1.drew ⟨u0, u1, u2, u3⟩
        unfold ptV at hone
        simp only at hone
        cases hov : (⟨u0, u1, u2, u3⟩ : PtS).one
        · rw [hov] at hone
          have hgf : gv = false := by rw [HGV.out]; exact HBAD.out (by rw [HOKI.out, hov, Bool.false_and])
          subst hgf
          clear hxc hW1 hB1 hu hov hok
          go_wp2_with fail
          rw [← HW1.out]
          refine wp_region_held_drew (S := (fun W' => W'.cell? ⟨wr.heap.size, 0, none⟩ = some (.int .i64 u0) ∧ W'.cell? ⟨wr.heap.size, 1, none⟩ = some (.int .i64 u1) ∧ W'.cell? ⟨wr.heap.size, 2, none⟩ = some (.int .i64 u2) ∧ W'.cell? ⟨wr.heap.size, 3, none⟩ = some (.int .i64 u3))) (by kernel_rfl) ⟨e0, e1, e2, e3⟩ (fun hHeld => ?_)
          refine takeL 0 ?_
          refine wpAnyH_ready (rs := [1]) (by kernel_rfl) (by simp) ?_
          refine AllReadyH.cons (o := _) rfl (fun K hK => ?_) AllReadyH.nil
          go_simp
          refine hone.mono ?_
          rintro e w5 ⟨rfl, hB5'⟩
          have hB5 : Below W1.heap.size W1 w5 := ⟨hB5'.os, hB5'.tape, hB5'.output, hB5'.size, hB5'.block⟩
          have HB5 := Lib.hid (HBW.out.trans (hB5.mono HBW.out.size))
          have g0 := below_at hB5 e0 hbx
          have g1 := below_at hB5 e1 hbx
          have g2 := below_at hB5 e2 hbx
          have g3 := below_at hB5 e3 hbx
          clear hB5' hB5
          try go_wp2_with fail
          refine hK _ _ ⟨g0, g1, g2, g3⟩ (fun hHeld => ?_)
          clear hK K
          try simp only [Act.put, List.setIfInBounds_toArray, List.set_cons_zero, List.set_cons_succ]
          refine takeL 2 ?_
          refine takeL 3 ?_
          refine takeU 4 ?_
          refine takeU 5 ?_
          refine takeU 6 ?_
          refine takeU 7 ?_
          refine takeU 8 ?_
          refine takeU 9 ?_
          refine takeU 10 ?_
          refine takeU 11 ?_
          refine takeU 12 ?_
          refine takeU 13 ?_
          refine takeU 14 ?_
          refine takeU 15 ?_
          refine takeU 16 ?_
          refine takeU 17 ?_
          refine takeU 18 ?_
          refine takeU 19 ?_
          refine takeU 20 ?_
          refine takeU 21 ?_
          refine takeU 22 ?_
          refine takeU 23 ?_
          refine takeU 24 ?_
          refine takeU 25 ?_
          refine takeU 26 ?_
          refine takeU 27 ?_
          refine takeU 28 ?_
          refine takeU 29 ?_
          refine takeU 30 ?_
          refine takeU 31 ?_
          refine takeU 32 ?_
          refine takeL 33 ?_
          refine wpAnyH_done (by kernel_rfl) ?_ _
          clear hHeld
          go_wp2_with fail
          go_ret
          exact ⟨rfl, HB5.out⟩
        · rw [hov] at hone
          cases i with
          | zero =>
            have HOK := Lib.hid (fun j (hj : j < 0 + 1) => (show okAt l j = true by
              obtain rfl : j = 0 := by omega
              rw [HOKI.out, hov]; rfl))
            clear hxc hW1 hB1 hu hov hok
            simp only [Nat.zero_mul, Nat.add_zero] at f0 f1 f2 f3
            go_wp2_with fail
            rw [← HW1.out]
            refine wp_region_held_drew (S := (fun W' => W'.cell? ⟨wr.heap.size, 0, none⟩ = some (.int .i64 u0) ∧ W'.cell? ⟨wr.heap.size, 1, none⟩ = some (.int .i64 u1) ∧ W'.cell? ⟨wr.heap.size, 2, none⟩ = some (.int .i64 u2) ∧ W'.cell? ⟨wr.heap.size, 3, none⟩ = some (.int .i64 u3))) (by kernel_rfl) ⟨e0, e1, e2, e3⟩ (fun hHeld => ?_)
            refine takeL 0 ?_
            refine wpAnyH_ready (rs := [1]) (by kernel_rfl) (by simp) ?_
            refine AllReadyH.cons (o := _) rfl (fun K hK => ?_) AllReadyH.nil
            go_simp
            refine hone.mono ?_
            rintro e w5 ⟨rfl, hB5'⟩
            have hB5 : Below W1.heap.size W1 w5 := ⟨hB5'.os, hB5'.tape, hB5'.output, hB5'.size, hB5'.block⟩
            have HB5 := Lib.hid (HBW.out.trans (hB5.mono HBW.out.size))
            have g0 := below_at hB5 e0 hbx
            have g1 := below_at hB5 e1 hbx
            have g2 := below_at hB5 e2 hbx
            have g3 := below_at hB5 e3 hbx
            clear hB5' hB5
            try go_wp2_with fail
            refine hK _ _ ⟨g0, g1, g2, g3⟩ (fun hHeld => ?_)
            clear hK K
            try simp only [Act.put, List.setIfInBounds_toArray, List.set_cons_zero, List.set_cons_succ]
            refine takeL 2 ?_
            refine takeL 3 ?_
            refine takeL 4 ?_
            refine takeL 5 ?_
            refine takeL 6 ?_
            refine takeU 7 ?_
            refine takeU 8 ?_
            refine takeU 9 ?_
            refine takeU 10 ?_
            refine takeU 11 ?_
            refine takeU 12 ?_
            refine takeU 13 ?_
            refine takeU 14 ?_
            refine takeU 15 ?_
            refine takeU 16 ?_
            refine takeU 17 ?_
            refine takeU 18 ?_
            refine takeU 19 ?_
            refine takeU 20 ?_
            refine takeU 21 ?_
            refine takeU 22 ?_
            refine takeU 23 ?_
            refine takeU 24 ?_
            refine takeU 25 ?_
            refine takeU 26 ?_
            refine takeU 27 ?_
            refine takeU 28 ?_
            refine takeU 29 ?_
            refine takeU 30 ?_
            refine takeU 31 ?_
            refine takeL 32 ?_
            refine takeL 33 ?_
            refine wpAnyH_done (by kernel_rfl) ?_ _
            clear hHeld
            go_wp2_with fail
            go_roundg (n - (0 + 1))
            case measure => exact hms
            case rel => exact ⟨0 + 1, by rw [← HN.out], by rw [← HN.out]; exact hi1, by first | rfl | rw [hwr1.out] | rw [HWR2.out], HOK.out, HB5.out⟩
          | succ k =>
            have hpv := HPV.out k rfl
            have hpin := one_in.1 (HPI.out k rfl)
            have HOI : Hid (okAt l (k + 1) = stepB (l.getD k default) ⟨u0, u1, u2, u3⟩) := Lib.hid (by rw [HOKI.out, hov, Bool.true_and]; rfl)
            generalize l.getD k default = p at *
            obtain ⟨p0, p1, p2, p3⟩ := p
            have p0c : W1.drew.cell? ⟨xb, xo + k * 4, none⟩ = some (.int .i64 p0) := below_at HB1.out (hpv 0 (by decide)) hxl'
            have p1c : W1.drew.cell? ⟨xb, xo + k * 4 + 1, none⟩ = some (.int .i64 p1) := below_at HB1.out (hpv 1 (by decide)) hxl'
            have p2c : W1.drew.cell? ⟨xb, xo + k * 4 + 2, none⟩ = some (.int .i64 p2) := below_at HB1.out (hpv 2 (by decide)) hxl'
            have p3c : W1.drew.cell? ⟨xb, xo + k * 4 + 3, none⟩ = some (.int .i64 p3) := below_at HB1.out (hpv 3 (by decide)) hxl'
            have hpl := cell_lt p0c
            have hjn := fun W => joins_any W ⟨p0, p1, p2, p3⟩ ⟨u0, u1, u2, u3⟩ hpin
            unfold ptV at hjn
            simp only at hjn
            have hwp : IntKind.i64.wrap (p0 + p1) = p0 + p1 := by have := hpin.o0; have := hpin.ol; have := hpin.l1; simp only at *; rw [IntKind.wrap_i64]; omega
            have hwk2 : IntKind.i64.wrap (k : Int) = (k : Int) := by have := Hn64.out; rw [IntKind.wrap_i64]; omega
            have hkl : (0 : Int) ≤ k ∧ (k : Int) < n := by omega
            have hgt : (0 : Int) < (k : Int) + 1 := by omega
            have HPIN := Lib.hid hpin
            have HWR2 := Lib.hid (show wrap64 ((k : Int) + 1 + 1) = ((k + 1 + 1 : Nat) : Int) by have := Hn64.out; unfold wrap64; omega)
            clear hxc hW1 hB1 hu hov hok hpv hpin
            by_cases hst : u0 < p0 + p1
            · have hgf : gv = false := by rw [HGV.out]; exact HBAD.out (by rw [HOI.out]; unfold stepB; rw [decide_eq_false (by simp only; omega), Bool.false_and])
              subst hgf
              go_wp2_with fail
              rw [← HW1.out]
              refine wp_region_held_drew (S := (fun W' => W'.cell? ⟨wr.heap.size, 0, none⟩ = some (.int .i64 u0) ∧ W'.cell? ⟨wr.heap.size, 1, none⟩ = some (.int .i64 u1) ∧ W'.cell? ⟨wr.heap.size, 2, none⟩ = some (.int .i64 u2) ∧ W'.cell? ⟨wr.heap.size, 3, none⟩ = some (.int .i64 u3) ∧ W'.cell? ⟨xb, xo + k * 4, none⟩ = some (.int .i64 p0) ∧ W'.cell? ⟨xb, xo + k * 4 + 1, none⟩ = some (.int .i64 p1) ∧ W'.cell? ⟨xb, xo + k * 4 + 2, none⟩ = some (.int .i64 p2) ∧ W'.cell? ⟨xb, xo + k * 4 + 3, none⟩ = some (.int .i64 p3))) (by kernel_rfl) ⟨e0, e1, e2, e3, p0c, p1c, p2c, p3c⟩ (fun hHeld => ?_)
              refine takeL 0 ?_
              refine wpAnyH_ready (rs := [1]) (by kernel_rfl) (by simp) ?_
              refine AllReadyH.cons (o := _) rfl (fun K hK => ?_) AllReadyH.nil
              go_simp
              refine hone.mono ?_
              rintro e w5 ⟨rfl, hB5'⟩
              have hB5 : Below W1.heap.size W1 w5 := ⟨hB5'.os, hB5'.tape, hB5'.output, hB5'.size, hB5'.block⟩
              have HB5 := Lib.hid (HBW.out.trans (hB5.mono HBW.out.size))
              have g0 := below_at hB5 e0 hbx
              have g1 := below_at hB5 e1 hbx
              have g2 := below_at hB5 e2 hbx
              have g3 := below_at hB5 e3 hbx
              have q0 := below_at hB5 p0c hpl
              have q1 := below_at hB5 p1c hpl
              have q2 := below_at hB5 p2c hpl
              have q3 := below_at hB5 p3c hpl
              clear hB5' hB5
              try go_wp2_with fail
              refine hK _ _ ⟨g0, g1, g2, g3, q0, q1, q2, q3⟩ (fun hHeld => ?_)
              clear hK K
              try simp only [Act.put, List.setIfInBounds_toArray, List.set_cons_zero, List.set_cons_succ]
              refine takeL 2 ?_
              refine takeL 3 ?_
              refine takeL 4 ?_
              refine takeL 5 ?_
              refine takeL 6 ?_
              refine takeL 7 ?_
              refine takeL 8 ?_
              refine takeL 9 ?_
              refine takeL 10 ?_
              refine takeL 11 ?_
              refine takeL 12 ?_
              refine takeL 13 ?_
              refine takeL 14 ?_
              refine takeL 15 ?_
              refine takeL 16 ?_
              refine takeL 17 ?_
              refine takeL 18 ?_
              refine takeL 19 ?_
              refine takeL 20 ?_
              refine takeL 21 ?_
              refine takeL 22 ?_
              refine takeL 23 ?_
              refine takeU 24 ?_
              refine takeU 25 ?_
              refine takeU 26 ?_
              refine takeU 27 ?_
              refine takeU 28 ?_
              refine takeU 29 ?_
              refine takeU 30 ?_
              refine takeL 31 ?_
              refine takeL 32 ?_
              refine takeL 33 ?_
              refine wpAnyH_done (by kernel_rfl) ?_ _
              clear hHeld
              go_wp2_with fail
              go_ret
              exact ⟨rfl, HB5.out⟩
            · have hst' : decide (u0 < p0 + p1) = false := decide_eq_false hst
              have HST : Hid (stepB ⟨p0, p1, p2, p3⟩ ⟨u0, u1, u2, u3⟩ = !joinsB ⟨p0, p1, p2, p3⟩ ⟨u0, u1, u2, u3⟩) := Lib.hid (by unfold stepB; rw [decide_eq_true (by simp only; omega), Bool.true_and])
              cases hjv : joinsB ⟨p0, p1, p2, p3⟩ ⟨u0, u1, u2, u3⟩
              · rw [hjv] at hjn
                have HOK := Lib.hid (fun j (hj : j < k + 1 + 1) => (show okAt l j = true by
                  by_cases e : j < k + 1
                  · exact HOK0.out j e
                  · obtain rfl : j = k + 1 := by omega
                    rw [HOI.out, HST.out, hjv]; rfl))
                clear hjv hst
                go_wp2_with fail
                rw [← HW1.out]
                refine wp_region_held_drew (S := (fun W' => W'.cell? ⟨wr.heap.size, 0, none⟩ = some (.int .i64 u0) ∧ W'.cell? ⟨wr.heap.size, 1, none⟩ = some (.int .i64 u1) ∧ W'.cell? ⟨wr.heap.size, 2, none⟩ = some (.int .i64 u2) ∧ W'.cell? ⟨wr.heap.size, 3, none⟩ = some (.int .i64 u3) ∧ W'.cell? ⟨xb, xo + k * 4, none⟩ = some (.int .i64 p0) ∧ W'.cell? ⟨xb, xo + k * 4 + 1, none⟩ = some (.int .i64 p1) ∧ W'.cell? ⟨xb, xo + k * 4 + 2, none⟩ = some (.int .i64 p2) ∧ W'.cell? ⟨xb, xo + k * 4 + 3, none⟩ = some (.int .i64 p3))) (by kernel_rfl) ⟨e0, e1, e2, e3, p0c, p1c, p2c, p3c⟩ (fun hHeld => ?_)
                refine takeL 0 ?_
                refine wpAnyH_ready (rs := [1]) (by kernel_rfl) (by simp) ?_
                refine AllReadyH.cons (o := _) rfl (fun K hK => ?_) AllReadyH.nil
                go_simp
                refine hone.mono ?_
                rintro e w5 ⟨rfl, hB5'⟩
                have hB5 : Below W1.heap.size W1 w5 := ⟨hB5'.os, hB5'.tape, hB5'.output, hB5'.size, hB5'.block⟩
                have HB5 := Lib.hid (HBW.out.trans (hB5.mono HBW.out.size))
                have g0 := below_at hB5 e0 hbx
                have g1 := below_at hB5 e1 hbx
                have g2 := below_at hB5 e2 hbx
                have g3 := below_at hB5 e3 hbx
                have q0 := below_at hB5 p0c hpl
                have q1 := below_at hB5 p1c hpl
                have q2 := below_at hB5 p2c hpl
                have q3 := below_at hB5 p3c hpl
                clear hB5' hB5
                try go_wp2_with fail
                refine hK _ _ ⟨g0, g1, g2, g3, q0, q1, q2, q3⟩ (fun hHeld => ?_)
                clear hK K
                try simp only [Act.put, List.setIfInBounds_toArray, List.set_cons_zero, List.set_cons_succ]
                refine takeL 2 ?_
                refine takeL 3 ?_
                refine takeL 4 ?_
                refine takeL 5 ?_
                refine takeL 6 ?_
                refine takeL 7 ?_
                refine takeL 8 ?_
                refine takeL 9 ?_
                refine takeL 10 ?_
                refine takeL 11 ?_
                refine takeL 12 ?_
                refine takeL 13 ?_
                refine takeL 14 ?_
                refine takeL 15 ?_
                refine takeL 16 ?_
                refine takeL 17 ?_
                refine takeL 18 ?_
                refine takeL 19 ?_
                refine takeL 20 ?_
                refine takeL 21 ?_
                refine takeL 22 ?_
                refine takeL 23 ?_
                refine takeL 24 ?_
                refine takeL 25 ?_
                refine takeL 26 ?_
                refine takeL 27 ?_
                refine takeL 28 ?_
                refine takeL 29 ?_
                refine wpAnyH_ready (rs := [30]) (by kernel_rfl) (by simp) ?_
                refine AllReadyH.cons (o := _) rfl (fun K hK => ?_) AllReadyH.nil
                go_simp
                refine (hjn _).mono ?_
                rintro e w6 ⟨rfl, hB6⟩
                have g0 := below_at hB6 g0 (cell_lt g0)
                have g1 := below_at hB6 g1 (cell_lt g1)
                have g2 := below_at hB6 g2 (cell_lt g2)
                have g3 := below_at hB6 g3 (cell_lt g3)
                have q0 := below_at hB6 q0 (cell_lt q0)
                have q1 := below_at hB6 q1 (cell_lt q1)
                have q2 := below_at hB6 q2 (cell_lt q2)
                have q3 := below_at hB6 q3 (cell_lt q3)
                have HB6 := Lib.hid (HB5.out.trans (hB6.mono HB5.out.size))
                clear hB6
                try go_wp2_with fail
                refine hK _ _ ⟨g0, g1, g2, g3, q0, q1, q2, q3⟩ (fun hHeld => ?_)
                clear hK K
                try simp only [Act.put, List.setIfInBounds_toArray, List.set_cons_zero, List.set_cons_succ]
                refine takeL 31 ?_
                refine takeL 32 ?_
                refine takeL 33 ?_
                refine wpAnyH_done (by kernel_rfl) ?_ _
                clear hHeld
                go_wp2_with fail
                go_roundg (n - ((k + 1) + 1))
                case measure => exact hms
                case rel => exact ⟨(k + 1) + 1, by rw [← HN.out], by rw [← HN.out]; exact hi1, by first | rfl | rw [hwr1.out] | rw [HWR2.out], HOK.out, HB6.out⟩
              · rw [hjv] at hjn
                have hgf : gv = false := by rw [HGV.out]; exact HBAD.out (by rw [HOI.out, HST.out, hjv]; rfl)
                subst hgf
                clear hjv hst
                go_wp2_with fail
                rw [← HW1.out]
                refine wp_region_held_drew (S := (fun W' => W'.cell? ⟨wr.heap.size, 0, none⟩ = some (.int .i64 u0) ∧ W'.cell? ⟨wr.heap.size, 1, none⟩ = some (.int .i64 u1) ∧ W'.cell? ⟨wr.heap.size, 2, none⟩ = some (.int .i64 u2) ∧ W'.cell? ⟨wr.heap.size, 3, none⟩ = some (.int .i64 u3) ∧ W'.cell? ⟨xb, xo + k * 4, none⟩ = some (.int .i64 p0) ∧ W'.cell? ⟨xb, xo + k * 4 + 1, none⟩ = some (.int .i64 p1) ∧ W'.cell? ⟨xb, xo + k * 4 + 2, none⟩ = some (.int .i64 p2) ∧ W'.cell? ⟨xb, xo + k * 4 + 3, none⟩ = some (.int .i64 p3))) (by kernel_rfl) ⟨e0, e1, e2, e3, p0c, p1c, p2c, p3c⟩ (fun hHeld => ?_)
                refine takeL 0 ?_
                refine wpAnyH_ready (rs := [1]) (by kernel_rfl) (by simp) ?_
                refine AllReadyH.cons (o := _) rfl (fun K hK => ?_) AllReadyH.nil
                go_simp
                refine hone.mono ?_
                rintro e w5 ⟨rfl, hB5'⟩
                have hB5 : Below W1.heap.size W1 w5 := ⟨hB5'.os, hB5'.tape, hB5'.output, hB5'.size, hB5'.block⟩
                have HB5 := Lib.hid (HBW.out.trans (hB5.mono HBW.out.size))
                have g0 := below_at hB5 e0 hbx
                have g1 := below_at hB5 e1 hbx
                have g2 := below_at hB5 e2 hbx
                have g3 := below_at hB5 e3 hbx
                have q0 := below_at hB5 p0c hpl
                have q1 := below_at hB5 p1c hpl
                have q2 := below_at hB5 p2c hpl
                have q3 := below_at hB5 p3c hpl
                clear hB5' hB5
                try go_wp2_with fail
                refine hK _ _ ⟨g0, g1, g2, g3, q0, q1, q2, q3⟩ (fun hHeld => ?_)
                clear hK K
                try simp only [Act.put, List.setIfInBounds_toArray, List.set_cons_zero, List.set_cons_succ]
                refine takeL 2 ?_
                refine takeL 3 ?_
                refine takeL 4 ?_
                refine takeL 5 ?_
                refine takeL 6 ?_
                refine takeL 7 ?_
                refine takeL 8 ?_
                refine takeL 9 ?_
                refine takeL 10 ?_
                refine takeL 11 ?_
                refine takeL 12 ?_
                refine takeL 13 ?_
                refine takeL 14 ?_
                refine takeL 15 ?_
                refine takeL 16 ?_
                refine takeL 17 ?_
                refine takeL 18 ?_
                refine takeL 19 ?_
                refine takeL 20 ?_
                refine takeL 21 ?_
                refine takeL 22 ?_
                refine takeL 23 ?_
                refine takeL 24 ?_
                refine takeL 25 ?_
                refine takeL 26 ?_
                refine takeL 27 ?_
                refine takeL 28 ?_
                refine takeL 29 ?_
                refine wpAnyH_ready (rs := [30]) (by kernel_rfl) (by simp) ?_
                refine AllReadyH.cons (o := _) rfl (fun K hK => ?_) AllReadyH.nil
                go_simp
                refine (hjn _).mono ?_
                rintro e w6 ⟨rfl, hB6⟩
                have g0 := below_at hB6 g0 (cell_lt g0)
                have g1 := below_at hB6 g1 (cell_lt g1)
                have g2 := below_at hB6 g2 (cell_lt g2)
                have g3 := below_at hB6 g3 (cell_lt g3)
                have q0 := below_at hB6 q0 (cell_lt q0)
                have q1 := below_at hB6 q1 (cell_lt q1)
                have q2 := below_at hB6 q2 (cell_lt q2)
                have q3 := below_at hB6 q3 (cell_lt q3)
                have HB6 := Lib.hid (HB5.out.trans (hB6.mono HB5.out.size))
                clear hB6
                try go_wp2_with fail
                refine hK _ _ ⟨g0, g1, g2, g3, q0, q1, q2, q3⟩ (fun hHeld => ?_)
                clear hK K
                try simp only [Act.put, List.setIfInBounds_toArray, List.set_cons_zero, List.set_cons_succ]
                refine takeL 31 ?_
                refine takeL 32 ?_
                refine takeL 33 ?_
                refine wpAnyH_done (by kernel_rfl) ?_ _
                clear hHeld
                go_wp2_with fail
                go_ret
                exact ⟨rfl, HB6.out⟩
      · obtain rfl : i = n := by omega
        have hgt : gv = true := by rw [HGV.out]; exact goodP_ok (by have := Hn64.out; have := HN.out; omega) (fun j hj => hok j (by have := HN.out; omega))
        subst hgt
        go_wp2_with fail
        go_ret
        exact ⟨rfl, HB.out⟩
end Go.Proofs.YtmnkackkeppheaaGreat
/- package extent: Cut -/
namespace Esch
open Go
end Esch
namespace Go.Proofs.YtmnkackkeppheaaGreat
open Go.RowKit Esch Go.Shelf

theorem Tryz.infoPart : (Tryz.prog.info? 94).map (fun i => (i.zero, i.size, i.bytes)) = some (some (.agg #[.int .i64 0, .int .i64 0, .int .i64 0, .int .i64 0]), 4, 32) := by kernel_rfl
theorem src_pt {P : Program} {W : World} (tx e' : TypeId) (hk : P.underlying tx = some (.slice e')) (b : Nat) (x : PtS) (t : TypeId) (hb : W.heap[b]? = some (.cells (ptC x).toArray t)) (c : Nat) : Src P 4 tx (.slice (some ⟨b, 0, none⟩) 1 c) 1 (ptC x) W := by
  refine Src.ofSlice W hk _ 1 c (ptC x) rfl (fun j u hu => ?_) (fun u hu => ?_)
  · rw [addr_add, Nat.zero_add]
    simp [World.cell?, hb, hu]
  · simp only [ptC, List.mem_cons, List.not_mem_nil, or_false] at hu
    rcases hu with rfl | rfl | rfl | rfl <;> rfl
end Go.Proofs.YtmnkackkeppheaaGreat
/- package inode: file, Truncate -/
namespace Esch
open Go
/-- S, and what is new -/
def growI (S : Nat → Prop) (w w' : World) (k : Nat) : Prop := S k ∨ (w.heap.size ≤ k ∧ k < w'.heap.size)
end Esch
namespace Go.Proofs.YtmnkackkeppheaaGreat
open Go.RowKit Esch Go.Shelf

end Go.Proofs.YtmnkackkeppheaaGreat
