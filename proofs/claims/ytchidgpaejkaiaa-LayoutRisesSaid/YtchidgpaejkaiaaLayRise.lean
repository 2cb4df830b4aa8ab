/-
  UNDER WAY: the law LayoutRises.
-/
import Derived.Test.YtchidgpaejkaiaaWakes12
import Derived.Test.YtchidgpaejkaiaaAsks
import Derived.Test.YtchidgpaejkaiaaOwn2
import Derived.Test.YtchidgpaejkaiaaLayRiseM
namespace Go.Proofs.Ytchidgpaejkaiaa
open Go.RowKit Esch Go.ChangeShapes Go.WideShapes Go.ChangeAt

/-- from B on, but for the box of what was, and for the row of those that left -/
def RiseS (B wb : Nat) (v : Value) : Nat → Prop := fun k => B ≤ k ∧ k ≠ wb ∧ v.ownBlock ≠ some k
def RiseRel (w : World) (b mb wb B n g : Nat) (s8 s9 s10 : Value) (wr : World) : Prop :=
  ∃ (k : Nat) (s : LayS) (left : List Int) (nn : Int) (wa : Option Addr) (wc T : Nat), g = n - k ∧ k ≤ n ∧ s8 = .int .i64 nn ∧ s10 = .int .i64 k ∧ OwnI wr B s9 left ∧ left.length ≤ 16 * k ∧ RiseI s left nn ∧
    LayAt (RiseS B wb s9) wr b mb T s ∧ T ≤ 16 + 32 * k ∧ wr.cell? ⟨wb, 0, none⟩ = some (.int .i64 s.p.epoch) ∧ wr.cell? ⟨wb, 1, none⟩ = some (.slice wa s.p.chains.length wc) ∧
    (∀ o, o < 2 → wr.frozen? ⟨wb, o, none⟩ = false) ∧ ListsAt (fun k => RiseS B wb s9 k ∧ k ≠ b ∧ k ≠ mb) wr wa s.p.chains ∧ s9.ownBlock ≠ some wb ∧ Below w.heap.size w wr

/-- while those that left are gathered -/
def LeftRel (w6 : World) (B : Nat) (v0 : Value) (left us : List Int) (q : Proj) (g : Nat) (s9 s13 : Value) (wr : World) : Prop :=
  ∃ k : Nat, g = us.length - k ∧ k ≤ us.length ∧ s13 = .int .i64 k ∧ OwnI wr B s9 (left ++ (us.take k).filter fun u => !decide (u ∈ q.units)) ∧ Mod (fun j => v0.ownBlock = some j) w6 wr ∧
    (∀ j, s9.ownBlock = some j → v0.ownBlock = some j ∨ w6.heap.size ≤ j)
theorem twoStores (w : World) (b : Nat) (x y : Value) {u v : Value} (h0 : w.cell? ⟨b, 0, none⟩ = some u) (h1 : w.cell? ⟨b, 1, none⟩ = some v) : ∃ W, W = (w.setCell ⟨b, 0, none⟩ x).setCell ⟨b, 1, none⟩ y ∧ Mod (· = b) w W ∧ W.heap.size = w.heap.size ∧
    W.cell? ⟨b, 0, none⟩ = some x ∧ W.cell? ⟨b, 1, none⟩ = some y ∧ (∀ o, W.frozen? ⟨b, o, none⟩ = w.frozen? ⟨b, o, none⟩) :=
  ⟨_, rfl, ((Mod.refl (· = b) w).setCellAt (fun _ => rfl) _).setCellAt (fun _ => rfl) _, by simp, by go_simp, by go_simp, fun o => by go_simp⟩
def TailRel (w : World) (left : List Int) (g : Nat) (s14 : Value) (wr : World) : Prop := ∃ k : Nat, g = left.length - k ∧ k ≤ left.length ∧ s14 = .int .i64 k ∧ Below w.heap.size w wr

set_option maxRecDepth 100000 in
set_option maxHeartbeats 2000000 in
theorem layRises_walk (pe : Int) (pa : Option Addr) (pc : Nat) (ls : List (List Int)) (oa : Option Addr) (n cap : Nat) (qs : Nat → AskC) (hn : n ≤ 9223372036854775807) (w : World) (h : ListsAt (Old w) w pa ls) (hoa : AsksAt w oa n qs) :
    Calls Try.prog 4 #[.agg #[.int .i64 pe, .slice pa ls.length pc], .slice oa n cap] w fun r w' => r = .returned (.bool true) ∧ Below w.heap.size w w' := by
  obtain ⟨W0, hW0, hB0, hz0, c0, c1⟩ := oneBox w 24 (.int .i64 pe) (.slice pa ls.length pc)
  have HW0 := Lib.hid hW0
  have H := Lib.hid h
  have Hoa := Lib.hid hoa
  have hlp := largeProj_any _ W0 pe pa pc ls (old_below h hB0)
  clear hW0 h hoa
  go_enter Try.func4, Try.ntmps4
  go_wp2_with fail
  rw [← HW0.out]
  refine hlp.mono ?_
  clear hlp
  rintro r w1 ⟨rfl, hB1⟩
  generalize largeProj ls = lg
  have hz1 := hB1.size
  have hBw1 := hB0.trans (hB1.mono (by omega))
  replace c0 := below_at hB1 c0 (by omega)
  replace c1 := below_at hB1 c1 (by omega)
  cases lg
  · go_wp2_with fail
    refine (fair12_any w oa n cap qs hn Hoa.out w1 hBw1).mono ?_
    rintro r w2 ⟨f, rfl, hf, hB2⟩
    have Hf := Lib.hid hf
    clear hf
    have hz2 := hB2.size
    have hBw2 := hBw1.trans (hB2.mono (by omega))
    replace c0 := below_at hB2 c0 (by omega)
    replace c1 := below_at hB2 c1 (by omega)
    have hl2 := old_below H.out hBw2
    have hg := rgood_any _ w2 pe pa pc ls hl2
    cases f
    · clear hg
      go_wp2_with fail
      refine (wakes12_any _).mono ?_
      rintro r w6 ⟨rfl, hB6⟩
      go_wp2_with fail
      go_ret
      exact ⟨rfl, hBw2.trans (hB6.mono hBw2.size)⟩
    · go_wp2_with fail
      refine hg.mono ?_
      clear hg
      rintro r w3 ⟨rfl, hB3⟩
      have hz3 := hB3.size
      have hBw3 := hBw2.trans (hB3.mono (by omega))
      replace c0 := below_at hB3 c0 (by omega)
      replace c1 := below_at hB3 c1 (by omega)
      by_cases hgood : (Proj.mk pe ls).good
      · rw [show goodB ⟨pe, ls⟩ = true from decide_eq_true hgood]
        have hl3 := old_below H.out hBw3
        have hcp := copyK_any _ w3 pe pa pc ls (good_small hgood) hl3
        go_wp2_with fail
        refine hcp.mono ?_
        clear hcp hl2 hl3
        rintro r w4 ⟨xa, xc, rfl, hx4, hB4⟩
        have hz4 := hB4.size
        have hBw4 := hBw3.trans (hB4.mono (by omega))
        replace c0 := below_at hB4 c0 (by omega)
        replace c1 := below_at hB4 c1 (by omega)
        go_wp2_with fail
        refine (layNew_any _ w4 ⟨pe, ls⟩ xa xc hgood hx4).mono ?_
        rintro r w5 ⟨b, mb, rfl, hL5, hB5⟩
        have hz5 := hB5.size
        have hBw5 := hBw4.trans (hB5.mono (by omega))
        replace c0 := below_at hB5 c0 (by omega)
        replace c1 := below_at hB5 c1 (by omega)
        have hcp := copyK_any _ w5 pe pa pc ls (good_small hgood) (old_below H.out hBw5)
        have hwlt : w.heap.size < w4.heap.size := by omega
        clear hx4 hB1 hB2 hB3 hB4
        go_wp2_with fail
        refine hcp.mono ?_
        clear hcp
        rintro r w6 ⟨ya, yc, rfl, hy6, hB6⟩
        have hz6 := hB6.size
        have hBw6 := hBw5.trans (hB6.mono (by omega))
        go_wp2_with fail
        obtain ⟨wb, hwb⟩ : ∃ wb, wb = w6.heap.size := ⟨_, rfl⟩
        obtain ⟨hn100, hfair⟩ := Hf.out trivial
        have Hfair := Lib.hid hfair
        have hb4 : w4.heap.size ≤ b := hL5.sb
        have hm4 : w4.heap.size ≤ mb := hL5.sm
        have hb5 := hL5.lt
        have hm5 := hL5.map.lt
        have hM7 : Below w5.heap.size w5 (w6.alloc (.cells #[.int .i64 pe, .slice ya ls.length yc] 24)) := by (repeat (first | with_reducible exact hB6 | with_reducible refine Below.drew ?_ | with_reducible refine Esch.below_drewN ?_ _ | with_reducible refine Below.setCell ?_ (by first | omega | (simp; done) | (simp; omega)) _ | with_reducible refine Below.alloc ?_ (by first | omega | (simp; done) | (simp; omega)) _))
        have hB7 : Below w.heap.size w (w6.alloc (.cells #[.int .i64 pe, .slice ya ls.length yc] 24)) := by (repeat (first | with_reducible exact hBw6 | with_reducible refine Below.drew ?_ | with_reducible refine Esch.below_drewN ?_ _ | with_reducible refine Below.setCell ?_ (by first | omega | (simp; done) | (simp; omega)) _ | with_reducible refine Below.alloc ?_ (by first | omega | (simp; done) | (simp; omega)) _))
        have hw0 : (w6.alloc (.cells #[.int .i64 pe, .slice ya ls.length yc] 24)).cell? ⟨w6.heap.size, 0, none⟩ = some (.int .i64 pe) := by go_simp
        have hw1 : (w6.alloc (.cells #[.int .i64 pe, .slice ya ls.length yc] 24)).cell? ⟨w6.heap.size, 1, none⟩ = some (.slice ya ls.length yc) := by go_simp
        have hwf : ∀ o, o < 2 → (w6.alloc (.cells #[.int .i64 pe, .slice ya ls.length yc] 24)).frozen? ⟨w6.heap.size, o, none⟩ = false := by
          intro o ho
          have : o = 0 ∨ o = 1 := by omega
          rcases this with rfl | rfl <;> go_simp
        have hL7 : LayAt (RiseS w4.heap.size w6.heap.size (.slice none 0 0)) (w6.alloc (.cells #[.int .i64 pe, .slice ya ls.length yc] 24)) b mb 16 (lay0 ⟨pe, ls⟩) := by
          have h1 : LayAt (fun k => From w4.heap.size k ∧ k < w5.heap.size) w5 b mb 16 (lay0 ⟨pe, ls⟩) := hL5.sub (fun k hk h => ⟨h, hk⟩)
          refine (h1.below hM7).sub (fun k _ hk => ⟨hk.1, ?_, by simp [Value.ownBlock]⟩)
          have := hk.2
          omega
        have hy7 : ListsAt (fun k => RiseS w4.heap.size w6.heap.size (.slice none 0 0) k ∧ k ≠ b ∧ k ≠ mb) (w6.alloc (.cells #[.int .i64 pe, .slice ya ls.length yc] 24)) ya ls := by
          refine (hy6.sub (T := fun k => RiseS w4.heap.size w6.heap.size (.slice none 0 0) k ∧ k ≠ b ∧ k ≠ mb) (fun k hk h => ?_)).mod (F := none') ((Mod.refl none' _).alloc _) (fun _ _ _ => id)
          have h : w5.heap.size ≤ k := h
          exact ⟨⟨by omega, by omega, by simp [Value.ownBlock]⟩, by omega, by omega⟩
        have hok := lay0_ok hgood
        have hO7 : OwnI (w6.alloc (.cells #[.int .i64 pe, .slice ya ls.length yc] 24)) w4.heap.size (.slice none 0 0) [] := OwnI.nil _ _
        have hwB : w.heap.size ≤ w4.heap.size := by omega
        have hwb4 : w4.heap.size ≤ wb := by omega
        rw [← hwb] at hw0 hw1 hwf hL7 hy7 ⊢
        obtain ⟨B, hBB⟩ : ∃ B, B = w4.heap.size := ⟨_, rfl⟩
        rw [← hBB] at hO7 hL7 hy7 hwB hb4 hm4 hwb4
        have hbmb := hL5.ne
        have hwbb : wb ≠ b := by omega
        have hwbm : wb ≠ mb := by omega
        clear hBB hwb hL5 hB5 hy6 hB6 hM7 hBw1 hBw2 hBw3 hBw4 hBw5 hBw6 c0 c1 Hf hfair hz1 hz2 hz3 hz4 hz5 hz6 hb5 hm5 hwlt
        go_loopg [8, 9, 10] n (fun g s8 s9 s10 wr => RiseRel w b mb wb B n g s8 s9 s10 wr)
        case atStart => exact ⟨0, _, [], -1, ya, yc, 16, rfl, Nat.zero_le _, rfl, rfl, hO7, Nat.le_refl _, riseI0 hok (Int.le_refl _), hL7, by omega, hw0, hw1, hwf, hy7, by simp [Value.ownBlock], hB7⟩
        case round =>
          clear hw0 hw1 hwf hL7 hy7 hO7 hB7 hok
          obtain ⟨k, s, left, nn, wa, wc, T, rfl, hk, rfl, rfl, hO, hlen, hI, hL, hT, d0, d1, df, hwa, hov, hBr⟩ := hrel
          by_cases hlt : k < n
          · obtain ⟨bo, offo, rfl, hbo, hqd, hql, q0, q1, q2, q3, q4, q5, q6, q7, q8⟩ := Hoa.out.get hlt
            obtain ⟨⟨qk, qu, qe, qp, qz, qn, qd, qpe, qca, qls, qcc⟩, hq⟩ : ∃ q, q = qs k := ⟨_, rfl⟩
            rw [← hq] at hqd hql q0 q1 q2 q3 q4 q5 q6 q7 q8
            clear hq
            simp only at hqd hql q0 q1 q2 q3 q4 q5 q6 q7 q8
            replace q0 := below_at hBr q0 hbo
            replace q1 := below_at hBr q1 hbo
            replace q2 := below_at hBr q2 hbo
            replace q3 := below_at hBr q3 hbo
            replace q4 := below_at hBr q4 hbo
            replace q5 := below_at hBr q5 hbo
            replace q6 := below_at hBr q6 hbo
            replace q7 := below_at hBr q7 hbo
            replace q8 := below_at hBr q8 hbo
            have hd := layDo_any qk qu qe qp qz qn qd ⟨qpe, qls⟩ qca qcc _ _ wr b mb T s hI.ok (by omega) hL (old_below hql hBr) (fun j hj _ => by have : j < w.heap.size := hj; omega)
            have hris := layDo_rises s qk ⟨qpe, qls⟩ qp qz qn
            have hok2 := layDo_ok hI.ok qk ⟨qpe, qls⟩ qp qz qn
            obtain ⟨r, hr⟩ : ∃ r, r = layDo s qk ⟨qpe, qls⟩ qp qz qn := ⟨_, rfl⟩
            rw [← hr] at hd hris hok2
            clear hr
            obtain ⟨ra, s2⟩ := r
            simp only at hris hok2
            have Hris := Lib.hid hris
            have HI := Lib.hid hI
            have HO := Lib.hid hO
            have hbr := hL.lt
            have hbor : bo < wr.heap.size := cell_lt q0
            have hwbr : wb < wr.heap.size := cell_lt d0
            have hBrz := hBr.size
            clear hris hI hL hql hO
            go_wp2_with fail
            refine hd.mono ?_
            clear hd
            rintro e w2 ⟨va, vc, rfl, -, hL2, hM2⟩
            simp only at hL2
            replace hL2 : LayAt (RiseS B wb u9) w2 b mb (T + 16) s2 := by
              refine hL2.sub (fun j _ hj => ?_)
              rcases hj with hj | hj
              · exact hj
              · exact ⟨by omega, by omega, fun e => by have := (HO.out.lt e).2; omega⟩
            have hz2 := hM2.size
            have hBw2 := hBr.trans (hM2.below_at hBr.size fun j hj e => by omega)
            replace d0 := hM2.at d0 (by omega)
            replace d1 := hM2.at d1 (by omega)
            replace hwa := hwa.mod hM2 (fun j hj _ e => e.elim hj.2.1 hj.2.2)
            have hO2 : OwnI w2 B u9 left := grown_mod hM2 (fun j hj e => e.elim (fun e => hL2.sb.2.2 (e ▸ hj)) (fun e => hL2.sm.2.2 (e ▸ hj))) (fun j hj => (HO.out.lt hj).2) HO.out
            replace df : ∀ o, o < 2 → w2.frozen? ⟨wb, o, none⟩ = false := fun o ho => (hM2.frozen (p := ⟨wb, o, none⟩) hwbr (fun e => e.elim hwbb hwbm)).trans (df o ho)
            clear hM2 HO q0 q1 q2 q3 q4 q5 q6 q7 q8
            simp only [ansL]
            have hnw := layNow_any _ w2 b mb _ s2 hok2 hL2
            have HL2 := Lib.hid hL2
            have hb2 := hL2.lt
            have hm2 := hL2.map.lt
            clear hL2
            go_wp2_with fail
            refine hnw.mono ?_
            clear hnw
            rintro e w3 ⟨na, nc, rfl, hn3, hB3⟩
            have hz3 := hB3.size
            replace d0 := below_at hB3 d0 (by omega)
            replace d1 := below_at hB3 d1 (by omega)
            have hwb3 : wb < w3.heap.size := by omega
            have hBw3 := hBw2.trans (hB3.mono hBw2.size)
            replace hwa := hwa.mod (F := none') (Mod.of_below hB3) (fun _ _ _ => id)
            have hO2s : ∀ j, u9.ownBlock = some j → B ≤ j ∧ j < w2.heap.size := fun j hj => hO2.lt hj
            have hO3 : OwnI w3 B u9 left := grown_mod (F := none') (Mod.of_below hB3) (fun _ _ => id) (fun j hj => (hO2.lt hj).2) hO2
            have hL3 := HL2.out.below hB3
            replace df : ∀ o, o < 2 → w3.frozen? ⟨wb, o, none⟩ = false := fun o ho => ((Mod.of_below (F := none') hB3).frozen (p := ⟨wb, o, none⟩) (by show wb < w2.heap.size; omega) id).trans (df o ho)
            obtain ⟨W3, hW3, hBW3, hzW3, x0, x1⟩ := oneBox w3 24 (.int .i64 s2.p.epoch) (.slice na s2.p.chains.length nc)
            have hpr := projection_any (fun _ => True) W3 s2.p.epoch s.p.epoch na wa nc wc s2.p.chains s.p.chains ((hn3.sub (T := fun _ => True) (fun _ _ _ => trivial)).mod (Mod.of_below (F := none') hBW3) (fun _ _ _ => id)) ((hwa.sub (T := fun _ => True) (fun _ _ _ => trivial)).mod (Mod.of_below (F := none') hBW3) (fun _ _ _ => id))
            have HW3 := Lib.hid hW3
            clear hW3 hO2
            go_wp2_with fail
            rw [← HW3.out]
            refine hpr.mono ?_
            clear hpr
            rintro e w4 ⟨rfl, hB4⟩
            have hz4 := hB4.size
            replace x0 := below_at hB4 x0 (by omega)
            replace x1 := below_at hB4 x1 (by omega)
            have M34 : Below w3.heap.size w3 w4 := hBW3.trans (hB4.mono (by omega))
            replace d0 := below_at M34 d0 hwb3
            replace d1 := below_at M34 d1 hwb3
            replace df : ∀ o, o < 2 → w4.frozen? ⟨wb, o, none⟩ = false := fun o ho => ((Mod.of_below (F := none') M34).frozen (p := ⟨wb, o, none⟩) hwb3 id).trans (df o ho)
            replace hwa := hwa.mod (F := none') (Mod.of_below M34) (fun _ _ _ => id)
            have hO4 : OwnI w4 B u9 left := grown_mod (F := none') (Mod.of_below M34) (fun _ _ => id) (fun j hj => (hO3.lt hj).2) hO3
            have hL4 := hL3.below M34
            have hn4 := hn3.mod (F := none') (Mod.of_below M34) (fun _ _ _ => id)
            have hBw4 := hBw3.trans (M34.mono hBw3.size)
            obtain ⟨nb, hnb⟩ : ∃ nb, nb = w3.heap.size := ⟨_, rfl⟩
            rw [← hnb] at x0 x1 hwb3 ⊢
            have hnb4 : nb < w4.heap.size := by omega
            have hnbB : B ≤ nb := by omega
            have hnb2 : nb ≠ wb := by omega
            have hobn : ∀ j, u9.ownBlock = some j → j < w2.heap.size := fun j hj => (hO2s j hj).2
            have hw2n : w2.heap.size ≤ nb := by omega
            clear hnb hO3 hL3 hn3 HL2 hB3 hBw2 hBw3 hBW3 hzW3 HW3 hB4 M34
            by_cases hsame : s2.p.epoch = s.p.epoch ∧ s2.p.chains = s.p.chains
            · rw [decide_eq_true hsame]
              have hI2 : RiseI s2 left s2.n := by
                obtain ⟨hnn, ⟨e1, e2⟩ | ⟨hm, e1, -⟩⟩ := Hris.out
                · exact HI.out.same hok2 e1 e2
                · have := (may_good hm).1.2.2.1
                  rw [← e1] at this
                  have := hsame.1
                  omega
              have hsp : s2.p = s.p := by
                obtain ⟨e1, e2⟩ := hsame
                cases hp : s2.p; cases hq : s.p
                rw [hp, hq] at e1 e2
                simp only at e1 e2
                rw [e1, e2]
              rw [← hsp] at d0 d1 hwa
              obtain ⟨la, lc, rfl, hli, -⟩ := hO4.ints
              have hll : left.length ≤ 1616 := by omega
              have Hli := Lib.hid hli
              have HI2 := Lib.hid hI2
              have Hn4 := Lib.hid hn4
              clear hli hI2 hn4 hsame hsp
              go_wp2_with fail
              go_loopg [14] left.length (fun g s14 wr => TailRel w4 left g s14 wr)
              case atStart => exact ⟨0, rfl, Nat.zero_le _, rfl, Below.refl _ _⟩
              case round =>
                obtain ⟨k2, rfl, hk2, rfl, hBt⟩ := hrel
                by_cases hlt2 : k2 < left.length
                · obtain ⟨lb, lo, rfl, -, hlb, hlc⟩ := Hli.out.2 (by omega)
                  have e0 : _ = some (Value.int .i64 (left.getD k2 0)) := below_at hBt (hlc k2 hlt2) hlb
                  have y0 := below_at hBt x0 hnb4
                  have y1 := below_at hBt x1 hnb4
                  have hun := runits_any _ wr.drew s2.p.epoch na nc s2.p.chains (good_small hok2.good) (Hn4.out.mod ((Mod.of_below (F := none') hBt).drew) (fun _ _ _ => id))
                  clear hn
                  have hnot : left.getD k2 0 ∉ unitsOf s2.p.chains.flatten := by
                    intro hm
                    have h1 := (HI2.out.left (left.getD k2 0) (by rw [List.getD_eq_getElem?_getD, List.getElem?_eq_getElem hlt2, Option.getD_some]; exact List.getElem_mem hlt2)).2
                    exact h1 (mem_unitsOf.1 hm)
                  have hnbr : nb < wr.heap.size := by have := hBt.size; omega
                  have hlbr : lb < wr.heap.size := by have := hBt.size; omega
                  generalize left.getD k2 0 = x at e0 hnot
                  have Hnot := Lib.hid hnot
                  clear hnot
                  go_wp2_with fail
                  have y0' : wr.drew.cell? ⟨nb, 0, none⟩ = some (.int .i64 s2.p.epoch) := y0
                  have y1' : wr.drew.cell? ⟨nb, 1, none⟩ = some (.slice na s2.p.chains.length nc) := y1
                  have e0' : wr.drew.cell? ⟨lb, lo + k2, none⟩ = some (.int .i64 x) := e0
                  go_region_held3 (fun w' => w'.cell? ⟨nb, 0, none⟩ = some (.int .i64 s2.p.epoch) ∧ w'.cell? ⟨nb, 1, none⟩ = some (.slice na s2.p.chains.length nc) ∧ w'.cell? ⟨lb, lo + k2, none⟩ = some (.int .i64 x))
                    (first
                      | with_reducible exact ⟨y0', y1', e0'⟩
                      | with_reducible exact ⟨z0, z1, z2⟩)
                    (first
                      | (go_at_call 27; (with_reducible refine hun.mono ?_); rintro e w5 ⟨ua, uc, rfl, hu5, hB5', -⟩
                         have hB5 : Below wr.heap.size wr w5 := below_drew hB5'
                         clear hB5'
                         have z0 := below_at hB5 y0 hnbr
                         have z1 := below_at hB5 y1 hnbr
                         have z2 := below_at hB5 e0 hlbr
                         have hha := has_any _ w5 ua uc _ x hu5)
                      | (go_at_call 28; (with_reducible refine hha.mono ?_); rintro e w' ⟨rfl, rfl⟩))
                  rw [decide_eq_false Hnot.out]
                  have hB6 := hBt.trans (hB5.mono hBt.size)
                  go_wp2_with fail
                  go_roundg (left.length - (k2 + 1))
                  case measure => omega
                  case rel => exact ⟨k2 + 1, rfl, by omega, by go_num, hB6⟩
                · have hge2 : left.length ≤ k2 := by omega
                  have hLw := hL4.below hBt
                  have hzt := hBt.size
                  have hd9 := layDo_any 9 0 0 0 0 0 ⟨#[]⟩ p0 none 0 _ (fun _ => False) wr b mb _ s2 hok2 (by omega) hLw (ListsAt.nil _ _ _) (fun _ h _ => h.elim)
                  rw [show layDo s2 9 p0 0 0 0 = (⟨0, s2.n, s2.p, s2.mark, s2.size⟩, s2) from rfl] at hd9
                  have hb6 := hLw.lt
                  have hm6 := hLw.map.lt
                  replace d0 := below_at hBt d0 (by omega)
                  replace d1 := below_at hBt d1 (by omega)
                  replace df : ∀ o, o < 2 → wr.frozen? ⟨wb, o, none⟩ = false := fun o ho => ((Mod.of_below (F := none') hBt).frozen (p := ⟨wb, o, none⟩) (by show wb < w4.heap.size; omega) id).trans (df o ho)
                  replace hwa := hwa.mod (F := none') (Mod.of_below hBt) (fun _ _ _ => id)
                  have hO5 : OwnI wr B (.slice la left.length lc) left := grown_mod (F := none') (Mod.of_below hBt) (fun _ _ => id) (fun j hj => (hO4.lt hj).2) hO4
                  have hBw5 := hBw4.trans (hBt.mono hBw4.size)
                  have hnn : nn ≤ s2.n := Int.le_trans HI.out.n Hris.out.1
                  have hwb5 : wb < wr.heap.size := by omega
                  go_wp2_with fail
                  refine hd9.mono ?_
                  clear hd9
                  rintro e w5 ⟨ta, tc, rfl, -, hL5, hM5⟩
                  simp only at hL5
                  replace hL5 : LayAt (RiseS B wb (.slice la left.length lc)) w5 b mb (T + 16 + 16) s2 := by
                    refine hL5.sub (fun j _ hj => ?_)
                    rcases hj with hj | hj
                    · exact hj
                    · exact ⟨by omega, by omega, fun e => by have := (hO5.lt e).2; omega⟩
                  have hz5 := hM5.size
                  have hBw6 := hBw5.trans (hM5.below_at hBw5.size fun j hj e => by omega)
                  replace d0 := hM5.at d0 (by omega)
                  replace d1 := hM5.at d1 (by omega)
                  replace df : ∀ o, o < 2 → w5.frozen? ⟨wb, o, none⟩ = false := fun o ho => (hM5.frozen (p := ⟨wb, o, none⟩) hwb5 (fun e => e.elim hwbb hwbm)).trans (df o ho)
                  replace hwa := hwa.mod hM5 (fun j hj _ e => e.elim hj.2.1 hj.2.2)
                  have hO6 : OwnI w5 B (.slice la left.length lc) left := grown_mod hM5 (fun j hj e => e.elim (fun e => hL5.sb.2.2 (e ▸ hj)) (fun e => hL5.sm.2.2 (e ▸ hj))) (fun j hj => (hO5.lt hj).2) hO5
                  have hwb6 : wb < w5.heap.size := by omega
                  simp only [ansL]
                  go_wp2_with fail
                  go_roundg (n - (k + 1))
                  case measure => omega
                  case rel =>
                    exact ⟨k + 1, s2, left, s2.n, wa, wc, T + 16 + 16, rfl, by omega, rfl, by go_num, hO6.alloc _, by omega, HI2.out, hL5.below (by (repeat (first | with_reducible exact (Below.refl _ _) | with_reducible refine Below.drew ?_ | with_reducible refine Esch.below_drewN ?_ _ | with_reducible refine Below.setCell ?_ (by first | omega | (simp; done) | (simp; omega)) _ | with_reducible refine Below.alloc ?_ (by first | omega | (simp; done) | (simp; omega)) _))), by omega,
                      (cell_alloc_lt _ _ _ _ hwb6).trans d0, (cell_alloc_lt _ _ _ _ hwb6).trans d1, fun o ho => (frozen_alloc_lt _ _ _ _ hwb6).trans (df o ho),
                      hwa.mod (F := none') ((Mod.refl none' _).alloc _) (fun _ _ _ => id), hov, hBw6.alloc hBw6.size _⟩
            · rw [decide_eq_false hsame]
              obtain ⟨hm, e1, e2⟩ : mayB s ⟨qpe, qls⟩ = true ∧ s2.p = ⟨qpe, qls⟩ ∧ s2.used = s.used ++ unitsOf (Proj.mk qpe qls).units := by
                obtain ⟨-, ⟨e1, -⟩ | h⟩ := Hris.out
                · exact absurd ⟨by rw [e1], by rw [e1]⟩ hsame
                · exact h
              have hnx : s.p.next s2.p := by rw [e1]; exact (may_good hm).1
              have hI2 := HI.out.next hok2 hm e1 e2
              rw [← e1] at hI2
              have hep : s2.p.epoch = s.p.epoch + 1 := hnx.2.2.1
              have hep0 := hnx.1.1
              have hep1 := hnx.1.2.1
              have HI2 := Lib.hid hI2
              have hrn := rnext_any (fun _ => True) w4 s.p.epoch (s.p.epoch + 1) wa na wc nc s.p.chains s2.p.chains (hwa.sub (fun _ _ _ => trivial)) (hn4.sub (fun _ _ _ => trivial))
              rw [show nextB ⟨s.p.epoch, s.p.chains⟩ ⟨s.p.epoch + 1, s2.p.chains⟩ = true from by rw [← hep]; exact decide_eq_true hnx] at hrn
              have Hnx := Lib.hid hnx
              clear hm e1 e2 hI2 hsame hnx
              rw [hep] at x0
              have Hep := Lib.hid hep
              clear hep
              go_wp2_with fail
              refine hrn.mono ?_
              clear hrn
              rintro e w5 ⟨rfl, hB5⟩
              have hz5 := hB5.size
              have hwb5 : wb < w5.heap.size := by omega
              replace d0 := below_at hB5 d0 (by omega)
              replace d1 := below_at hB5 d1 (by omega)
              replace x0 := below_at hB5 x0 hnb4
              replace x1 := below_at hB5 x1 hnb4
              have hun0 := runits_any (fun _ => True) w5 s.p.epoch wa wc s.p.chains (good_small Hnx.out.1) ((hwa.mod (F := none') (Mod.of_below hB5) (fun _ _ _ => id)).sub (fun _ _ _ => trivial))
              go_wp2_with fail
              refine hun0.mono ?_
              clear hun0
              rintro e w6 ⟨ua, uc, rfl, hu6, hB6, -⟩
              have hz6 := hB6.size
              have hB46 : Below w4.heap.size w4 w6 := hB5.trans (hB6.mono hB5.size)
              replace d0 := below_at hB6 d0 hwb5
              replace d1 := below_at hB6 d1 hwb5
              replace x0 := below_at hB6 x0 (by omega)
              replace x1 := below_at hB6 x1 (by omega)
              have hO6 : OwnI w6 B u9 left := grown_mod (F := none') (Mod.of_below hB46) (fun _ _ => id) (fun j hj => (hO4.lt hj).2) hO4
              have hL6 := hL4.below hB46
              have hn6 := hn4.mod (F := none') (Mod.of_below hB46) (fun _ _ _ => id)
              replace df : ∀ o, o < 2 → w6.frozen? ⟨wb, o, none⟩ = false := fun o ho => ((Mod.of_below (F := none') hB46).frozen (p := ⟨wb, o, none⟩) (by show wb < w4.heap.size; omega) id).trans (df o ho)
              have hBw6 := hBw4.trans (hB46.mono hBw4.size)
              have husl : (unitsOf s.p.chains.flatten).length ≤ 16 := units_len Hnx.out.1.2.2.2.2.2.1
              have hlo : Esch.leftOf s.p s2.p = (unitsOf s.p.chains.flatten).filter fun u => !decide (u ∈ s2.p.units) := rfl
              generalize hus : unitsOf s.p.chains.flatten = us at hu6 husl hlo ⊢
              have Hlo := Lib.hid hlo
              have Hu6 := Lib.hid hu6
              have HO6 := Lib.hid hO6
              have Hn6 := Lib.hid hn6
              clear hus hlo hO4 hL4 hn4 hB5 hB6 hu6 hO6 hn6 hwa
              obtain ⟨v0, rfl⟩ : ∃ v0, v0 = u9 := ⟨_, rfl⟩
              go_wp2_with fail
              go_loopg [9, 13] us.length (fun g s9 s13 wr => LeftRel w6 B v0 left us s2.p g s9 s13 wr)
              case atStart => exact ⟨0, rfl, Nat.zero_le _, rfl, by simpa using HO6.out, Mod.refl _ _, fun j hj => Or.inl hj⟩
              case round =>
                obtain ⟨k2, rfl, hk2, rfl, hOr, hMr, hvr⟩ := hrel
                by_cases hlt2 : k2 < us.length
                · obtain ⟨lb, lo, rfl, hlS, hlb, hlc⟩ := Hu6.out.2 (by omega)
                  have hlS : w5.heap.size ≤ lb := hlS
                  have e0 : _ = some (Value.int .i64 (us.getD k2 0)) := hMr.at (hlc k2 hlt2) (fun e => by have := hobn _ e; omega)
                  have y0 := hMr.at x0 (fun e => by have := hobn _ e; omega)
                  have y1 := hMr.at x1 (fun e => by have := hobn _ e; omega)
                  have hmr := hMr.size
                  have hun := runits_any _ wr.drew (s.p.epoch + 1) na nc s2.p.chains (good_small hok2.good) ((Hn6.out.mod hMr (fun j hj hl e => by have hj : w2.heap.size ≤ j := hj; have := hobn _ e; omega)).mod ((Mod.refl none' _).drew) (fun _ _ _ => id))
                  have hlbr : lb < wr.heap.size := by omega
                  have hnbr : nb < wr.heap.size := by omega
                  have htk := leftOf_take (q := s2.p) hlt2
                  obtain ⟨L, hL⟩ : ∃ L, L = left ++ (us.take k2).filter fun u => !decide (u ∈ s2.p.units) := ⟨_, rfl⟩
                  rw [← hL] at hOr
                  have HLe := Lib.hid hL
                  have hLl : L.length ≤ 1616 := by
                    rw [hL, List.length_append]
                    have := List.length_filter_le (fun u => !decide (u ∈ s2.p.units)) (us.take k2)
                    have := List.length_take_le k2 us
                    omega
                  obtain ⟨va9, vc9, rfl, -⟩ := hOr.ints
                  clear hL
                  generalize us.getD k2 0 = x at e0 htk
                  have Htk := Lib.hid htk
                  have HOr := Lib.hid hOr
                  have HMr := Lib.hid hMr
                  clear hn htk hOr hMr
                  go_wp2_with fail
                  have y0' : wr.drew.cell? ⟨nb, 0, none⟩ = some (.int .i64 (s.p.epoch + 1)) := y0
                  have y1' : wr.drew.cell? ⟨nb, 1, none⟩ = some (.slice na s2.p.chains.length nc) := y1
                  have e0' : wr.drew.cell? ⟨lb, lo + k2, none⟩ = some (.int .i64 x) := e0
                  go_region_held3 (fun w' => w'.cell? ⟨nb, 0, none⟩ = some (.int .i64 (s.p.epoch + 1)) ∧ w'.cell? ⟨nb, 1, none⟩ = some (.slice na s2.p.chains.length nc) ∧ w'.cell? ⟨lb, lo + k2, none⟩ = some (.int .i64 x))
                    (first
                      | with_reducible exact ⟨y0', y1', e0'⟩
                      | with_reducible exact ⟨z0, z1, z2⟩)
                    (first
                      | (go_at_call 27; (with_reducible refine hun.mono ?_); rintro e w7 ⟨va, vc, rfl, hu7, hB7', -⟩
                         have hB7 : Below wr.heap.size wr w7 := below_drew hB7'
                         clear hB7'
                         have z0 := below_at hB7 y0 hnbr
                         have z1 := below_at hB7 y1 hnbr
                         have z2 := below_at hB7 e0 hlbr
                         have hha := has_any _ w7 va vc _ x hu7)
                      | (go_at_call 28; (with_reducible refine hha.mono ?_); rintro e w' ⟨rfl, rfl⟩))
                  have hM7 := HMr.out.trans' (Mod.of_below (F := none') hB7) (fun _ _ h => h.elim)
                  have hO7 : OwnI w7 B (.slice va9 L.length vc9) L := grown_mod (F := none') (Mod.of_below hB7) (fun _ _ => id) (fun j hj => (HOr.out.lt hj).2) HOr.out
                  by_cases hin : x ∈ unitsOf s2.p.chains.flatten
                  · rw [decide_eq_true hin]
                    go_wp2_with fail
                    go_roundg (us.length - (k2 + 1))
                    case measure => omega
                    case rel =>
                      refine ⟨k2 + 1, rfl, by omega, by go_num, ?_, hM7, hvr⟩
                      rw [Htk.out, if_pos (show x ∈ s2.p.units from mem_unitsOf.1 hin), List.append_nil, ← HLe.out]
                      exact hO7
                  · rw [decide_eq_false hin]
                    have hins : x ∉ s2.p.units := fun h => hin (mem_unitsOf.2 h)
                    have hsrc := IntsAt.new w7 x 3
                    have hsz : B ≤ w7.heap.size := by have := hB7.size; omega
                    have Hins := Lib.hid hins
                    have HO7 := Lib.hid hO7
                    clear hin hins hO7
                    go_wp2_with (at_builtin; refine wpList_appendO rfl (.tmp 85) (.tmp 90) rfl (· = w7.heap.size) B (.slice va9 L.length vc9) L [x] _ 1 1 rfl rfl rfl (HO7.out.alloc _) hsrc (by simp only [List.length_cons, List.length_nil]; omega) (by rw [World.size_alloc]; omega) ?_)
                    intro v8 w8 hO8 hg8 hb8
                    go_wp2_with fail
                    go_roundg (us.length - (k2 + 1))
                    case measure => omega
                    case rel =>
                      refine ⟨k2 + 1, rfl, by omega, by go_num, ?_, (hM7.alloc _).trans' (mod_grown hg8) (fun j hj e => (hvr j e).resolve_right (by omega)), fun j hj => ?_⟩
                      · rw [Htk.out, if_neg Hins.out, ← List.append_assoc, ← HLe.out]
                        exact hO8
                      · rcases hb8 with e | e
                        · exact hvr j (e ▸ hj)
                        · right
                          rw [e] at hj
                          have e2 := Option.some.inj hj
                          have := hM7.size
                          omega
                · have hge2 : us.length ≤ k2 := by omega
                  have hmr := hMr.size
                  have hBL : B ≤ w2.heap.size := by omega
                  have hwb6 : wb < w6.heap.size := by omega
                  obtain ⟨L, hL⟩ : ∃ L, L = left ++ (us.take k2).filter fun u => !decide (u ∈ s2.p.units) := ⟨_, rfl⟩
                  rw [← hL] at hOr
                  have hLo : left ++ Esch.leftOf s.p s2.p = L := by rw [hL, Hlo.out, List.take_of_length_le hge2]
                  have hI3 := HI2.out
                  rw [hLo] at hI3
                  have HI3 := Lib.hid hI3
                  have hLl : L.length ≤ 16 * (k + 1) := by
                    rw [hL, List.length_append]
                    have := List.length_filter_le (fun u => !decide (u ∈ s2.p.units)) (us.take k2)
                    have := List.length_take_le k2 us
                    omega
                  replace x0 := hMr.at x0 (fun e => by have := hobn _ e; omega)
                  replace x1 := hMr.at x1 (fun e => by have := hobn _ e; omega)
                  replace d0 := hMr.at d0 (fun e => hov e)
                  replace d1 := hMr.at d1 (fun e => hov e)
                  replace df : ∀ o, o < 2 → wr.frozen? ⟨wb, o, none⟩ = false := fun o ho => (hMr.frozen (p := ⟨wb, o, none⟩) hwb6 hov).trans (df o ho)
                  have hov9 : ∀ j, j < w6.heap.size → v0.ownBlock ≠ some j → u9.ownBlock ≠ some j := fun j hj hn e => by
                    rcases hvr j e with e | e
                    · exact hn e
                    · omega
                  obtain ⟨wv, hwv, hMv, hzv, c0, c1, cf⟩ := twoStores wr wb (.int .i64 (s.p.epoch + 1)) (.slice na s2.p.chains.length nc) d0 d1
                  have hL4 : LayAt (RiseS B wb u9) wv b mb (T + 16) s2 := by
                    refine (((hL6.sub (S' := fun k => RiseS B wb v0 k ∧ k < w6.heap.size) (fun k hk h => ⟨h, hk⟩)).mod hMr (fun k hk _ => hk.1.2.2)).sub (fun k _ hk => ?_)).mod hMv (fun k hk _ => hk.2.1)
                    exact ⟨hk.1.1, hk.1.2.1, hov9 k hk.2 hk.1.2.2⟩
                  have hwa : ListsAt (fun k => RiseS B wb u9 k ∧ k ≠ b ∧ k ≠ mb) wv na s2.p.chains := by
                    refine ((Hn6.out.sub (T := fun k => (RiseS B wb u9 k ∧ k ≠ b ∧ k ≠ mb) ∧ v0.ownBlock ≠ some k) (fun k hk (h : w2.heap.size ≤ k) => ?_)).mod hMr (fun k hk _ => hk.2)).mod hMv (fun k hk _ => hk.1.1.2.1) |>.sub (fun k _ hk => hk.1)
                    have hv : v0.ownBlock ≠ some k := fun e => by have := hobn k e; omega
                    exact ⟨⟨⟨by omega, by omega, hov9 k hk hv⟩, by omega, by omega⟩, hv⟩
                  have hov : u9.ownBlock ≠ some wb := hov9 wb hwb6 hov
                  have hO4 : OwnI wv B u9 L := grown_mod hMv (fun j hj e => hov (e ▸ hj)) (fun j hj => (hOr.lt hj).2) hOr
                  have hBw4 : Below w.heap.size w wv := (hBw6.trans (hMr.below_at hBw6.size fun j hj e => by have := hO2s j e; omega)).trans (hMv.below_at (by have := hBw6.size; omega) fun j hj (e : j = wb) => by omega)
                  have x0v := hMv.at x0 (fun e => hnb2 e)
                  have x1v := hMv.at x1 (fun e => hnb2 e)
                  have HL4 := Lib.hid hL4
                  have Hwa := Lib.hid hwa
                  have HO4 := Lib.hid hO4
                  have Hwv := Lib.hid hwv
                  clear hL hLo hI3 hL4 hwa hO4 hOr hMr hMv hwv
                  go_wp2_with fail
                  rw [← Hwv.out]
                  have hO4 := HO4.out
                  have hL4 := HL4.out
                  have hwa := Hwa.out
                  have x0 := x0v
                  have x1 := x1v
                  rw [← Hep.out] at x0
                  have d0 := c0
                  have d1 := c1
                  rw [← Hep.out] at d0
                  have df : ∀ o, o < 2 → wv.frozen? ⟨wb, o, none⟩ = false := fun o ho => (cf o).trans (df o ho)
                  have hnb4 : nb < wv.heap.size := cell_lt x0
                  have hwbv : wb < wv.heap.size := cell_lt d0
                  obtain ⟨la, lc, rfl, hli, -⟩ := hO4.ints
                  have hll : L.length ≤ 1616 := by omega
                  have Hli := Lib.hid hli
                  have HI2 := HI3
                  have Hn4 := Lib.hid (hwa.sub (T := From w.heap.size) (fun k _ h => show w.heap.size ≤ k by have := h.1.1; omega))
                  clear hli HO4 HL4 Hwa x0v x1v c0 c1 cf Hn6
                  go_loopg [14] L.length (fun g s14 wr => TailRel wv L g s14 wr)
                  case atStart => exact ⟨0, rfl, Nat.zero_le _, rfl, Below.refl _ _⟩
                  case round =>
                    obtain ⟨k2, rfl, hk2, rfl, hBt⟩ := hrel
                    by_cases hlt2 : k2 < L.length
                    · obtain ⟨lb, lo, rfl, -, hlb, hlc⟩ := Hli.out.2 (by omega)
                      have e0 : _ = some (Value.int .i64 (L.getD k2 0)) := below_at hBt (hlc k2 hlt2) hlb
                      have y0 := below_at hBt x0 hnb4
                      have y1 := below_at hBt x1 hnb4
                      have hun := runits_any _ wr.drew s2.p.epoch na nc s2.p.chains (good_small hok2.good) (Hn4.out.mod ((Mod.of_below (F := none') hBt).drew) (fun _ _ _ => id))
                      clear hn
                      have hnot : L.getD k2 0 ∉ unitsOf s2.p.chains.flatten := by
                        intro hm
                        have h1 := (HI2.out.left (L.getD k2 0) (by rw [List.getD_eq_getElem?_getD, List.getElem?_eq_getElem hlt2, Option.getD_some]; exact List.getElem_mem hlt2)).2
                        exact h1 (mem_unitsOf.1 hm)
                      have hnbr : nb < wr.heap.size := by have := hBt.size; omega
                      have hlbr : lb < wr.heap.size := by have := hBt.size; omega
                      generalize L.getD k2 0 = x at e0 hnot
                      have Hnot := Lib.hid hnot
                      clear hnot
                      go_wp2_with fail
                      have y0' : wr.drew.cell? ⟨nb, 0, none⟩ = some (.int .i64 s2.p.epoch) := y0
                      have y1' : wr.drew.cell? ⟨nb, 1, none⟩ = some (.slice na s2.p.chains.length nc) := y1
                      have e0' : wr.drew.cell? ⟨lb, lo + k2, none⟩ = some (.int .i64 x) := e0
                      go_region_held3 (fun w' => w'.cell? ⟨nb, 0, none⟩ = some (.int .i64 s2.p.epoch) ∧ w'.cell? ⟨nb, 1, none⟩ = some (.slice na s2.p.chains.length nc) ∧ w'.cell? ⟨lb, lo + k2, none⟩ = some (.int .i64 x))
                        (first
                          | with_reducible exact ⟨y0', y1', e0'⟩
                          | with_reducible exact ⟨z0, z1, z2⟩)
                        (first
                          | (go_at_call 27; (with_reducible refine hun.mono ?_); rintro e w5 ⟨ua, uc, rfl, hu5, hB5', -⟩
                             have hB5 : Below wr.heap.size wr w5 := below_drew hB5'
                             clear hB5'
                             have z0 := below_at hB5 y0 hnbr
                             have z1 := below_at hB5 y1 hnbr
                             have z2 := below_at hB5 e0 hlbr
                             have hha := has_any _ w5 ua uc _ x hu5)
                          | (go_at_call 28; (with_reducible refine hha.mono ?_); rintro e w' ⟨rfl, rfl⟩))
                      rw [decide_eq_false Hnot.out]
                      have hB6 := hBt.trans (hB5.mono hBt.size)
                      go_wp2_with fail
                      go_roundg (L.length - (k2 + 1))
                      case measure => omega
                      case rel => exact ⟨k2 + 1, rfl, by omega, by go_num, hB6⟩
                    · have hge2 : L.length ≤ k2 := by omega
                      have hLw := hL4.below hBt
                      have hzt := hBt.size
                      have hd9 := layDo_any 9 0 0 0 0 0 ⟨#[]⟩ p0 none 0 _ (fun _ => False) wr b mb _ s2 hok2 (by omega) hLw (ListsAt.nil _ _ _) (fun _ h _ => h.elim)
                      rw [show layDo s2 9 p0 0 0 0 = (⟨0, s2.n, s2.p, s2.mark, s2.size⟩, s2) from rfl] at hd9
                      have hb6 := hLw.lt
                      have hm6 := hLw.map.lt
                      replace d0 := below_at hBt d0 (by omega)
                      replace d1 := below_at hBt d1 (by omega)
                      replace df : ∀ o, o < 2 → wr.frozen? ⟨wb, o, none⟩ = false := fun o ho => ((Mod.of_below (F := none') hBt).frozen (p := ⟨wb, o, none⟩) (by show wb < wv.heap.size; omega) id).trans (df o ho)
                      replace hwa := hwa.mod (F := none') (Mod.of_below hBt) (fun _ _ _ => id)
                      have hO5 : OwnI wr B (.slice la L.length lc) L := grown_mod (F := none') (Mod.of_below hBt) (fun _ _ => id) (fun j hj => (hO4.lt hj).2) hO4
                      have hBw5 := hBw4.trans (hBt.mono hBw4.size)
                      have hnn : nn ≤ s2.n := Int.le_trans HI.out.n Hris.out.1
                      have hwb5 : wb < wr.heap.size := by omega
                      go_wp2_with fail
                      refine hd9.mono ?_
                      clear hd9
                      rintro e w5 ⟨ta, tc, rfl, -, hL5, hM5⟩
                      simp only at hL5
                      replace hL5 : LayAt (RiseS B wb (.slice la L.length lc)) w5 b mb (T + 16 + 16) s2 := by
                        refine hL5.sub (fun j _ hj => ?_)
                        rcases hj with hj | hj
                        · exact hj
                        · exact ⟨by omega, by omega, fun e => by have := (hO5.lt e).2; omega⟩
                      have hz5 := hM5.size
                      have hBw6 := hBw5.trans (hM5.below_at hBw5.size fun j hj e => by omega)
                      replace d0 := hM5.at d0 (by omega)
                      replace d1 := hM5.at d1 (by omega)
                      replace df : ∀ o, o < 2 → w5.frozen? ⟨wb, o, none⟩ = false := fun o ho => (hM5.frozen (p := ⟨wb, o, none⟩) hwb5 (fun e => e.elim hwbb hwbm)).trans (df o ho)
                      replace hwa := hwa.mod hM5 (fun j hj _ e => e.elim hj.2.1 hj.2.2)
                      have hO6 : OwnI w5 B (.slice la L.length lc) L := grown_mod hM5 (fun j hj e => e.elim (fun e => hL5.sb.2.2 (e ▸ hj)) (fun e => hL5.sm.2.2 (e ▸ hj))) (fun j hj => (hO5.lt hj).2) hO5
                      have hwb6 : wb < w5.heap.size := by omega
                      simp only [ansL]
                      go_wp2_with fail
                      go_roundg (n - (k + 1))
                      case measure => omega
                      case rel =>
                        exact ⟨k + 1, s2, L, s2.n, na, nc, T + 16 + 16, rfl, by omega, rfl, by go_num, hO6.alloc _, by omega, HI2.out, hL5.below (by (repeat (first | with_reducible exact (Below.refl _ _) | with_reducible refine Below.drew ?_ | with_reducible refine Esch.below_drewN ?_ _ | with_reducible refine Below.setCell ?_ (by first | omega | (simp; done) | (simp; omega)) _ | with_reducible refine Below.alloc ?_ (by first | omega | (simp; done) | (simp; omega)) _))), by omega,
                          (cell_alloc_lt _ _ _ _ hwb6).trans d0, (cell_alloc_lt _ _ _ _ hwb6).trans d1, fun o ho => (frozen_alloc_lt _ _ _ _ hwb6).trans (df o ho),
                          hwa.mod (F := none') ((Mod.refl none' _).alloc _) (fun _ _ _ => id), hov, hBw6.alloc hBw6.size _⟩
          · have hge : n ≤ k := by omega
            clear hlt
            go_wp2_with fail
            refine (wakes12_any _).mono ?_
            rintro r w9 ⟨rfl, hB9⟩
            go_wp2_with fail
            go_ret
            exact ⟨rfl, hBr.trans (hB9.mono hBr.size)⟩
      · rw [show goodB ⟨pe, ls⟩ = false from decide_eq_false hgood]
        go_wp2_with fail
        refine (wakes12_any _).mono ?_
        rintro r w6 ⟨rfl, hB6⟩
        go_wp2_with fail
        go_ret
        exact ⟨rfl, hBw3.trans (hB6.mono hBw3.size)⟩
  · go_wp2_with fail
    refine (wakes12_any _).mono ?_
    rintro r w6 ⟨rfl, hB6⟩
    go_wp2_with fail
    go_ret
    exact ⟨rfl, hBw1.trans (hB6.mono hBw1.size)⟩
end Go.Proofs.Ytchidgpaejkaiaa
