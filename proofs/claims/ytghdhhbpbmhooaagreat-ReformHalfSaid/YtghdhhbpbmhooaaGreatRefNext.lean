/- the document's: which projection may come next -/
import Derived.Test.YtghdhhbpbmhooaaGreatRefGood
namespace Go.Proofs.YtghdhhbpbmhooaaGreat
open Go.RowKit Esch

theorem getD_drop (l : List Int) (m j : Nat) : (l.drop m).getD j 0 = l.getD (m + j) 0 := by
  simp [List.getD_eq_getElem?_getD, List.getElem?_drop]
theorem posOf_drop {l : List Int} {x : Int} {m m2 : Nat} (h1 : m ≤ m2) (h2 : m2 < l.length) (hx : l.getD m2 0 = x) (hj : ∀ j, m ≤ j → j < m2 → l.getD j 0 ≠ x) : posOf x (l.drop m) = some (m2 - m) :=
  posOf_at (by rw [List.length_drop]; omega) (by rw [getD_drop, show m + (m2 - m) = m2 by omega]; exact hx) (fun j hlt => by rw [getD_drop]; exact hj _ (by omega) (by omega))
theorem posOf_drop_none {l : List Int} {x : Int} {m : Nat} (hj : ∀ j, m ≤ j → j < l.length → l.getD j 0 ≠ x) : posOf x (l.drop m) = none :=
  posOf_out (fun j hlt => by rw [List.length_drop] at hlt; rw [getD_drop]; exact hj _ (by omega) (by omega))
theorem mem_drop_getD {l : List Int} {n : Nat} {P : Int → Prop} (h : ∀ j, n ≤ j → j < l.length → P (l.getD j 0)) : ∀ u ∈ l.drop n, P u := by
  intro u hu
  obtain ⟨j, hj, rfl⟩ := List.mem_iff_getElem.1 hu
  rw [List.length_drop] at hj
  have := h (n + j) (by omega) (by omega)
  rw [List.getD_eq_getElem?_getD, List.getElem?_eq_getElem (by omega), Option.getD_some] at this
  rw [List.getElem_drop]; exact this
theorem getD_mem_drop {l : List Int} {n j : Nat} (h1 : n ≤ j) (h2 : j < l.length) : l.getD j 0 ∈ l.drop n := by
  rw [List.mem_iff_getElem]
  refine ⟨j - n, by rw [List.length_drop]; omega, ?_⟩
  rw [List.getElem_drop, List.getD_eq_getElem?_getD, List.getElem?_eq_getElem h2, Option.getD_some]
  congr 1; omega

def RNRel1 (W : World) (ls ls' : List (List Int)) (g : Nat) (s6 : Value) (wr : World) : Prop :=
  ∃ k : Nat, g = ls'.length - k ∧ k ≤ ls'.length ∧ s6 = .int .i64 k ∧ (∀ j, j < k → chainNext (ls.getD j []) ls.flatten (ls'.getD j [])) ∧ ∃ n, wr = W.drewN n
def RNRel2 (W : World) (old c : List Int) (g : Nat) (s9 s10 : Value) (wr : World) : Prop :=
  ∃ n at' : Nat, g = c.length - n ∧ s10 = .int .i64 n ∧ s9 = .int .i64 at' ∧ HeadsAt old c n at' ∧ ∃ n, wr = W.drewN n
def RNRel3 (W : World) (old : List Int) (x : Int) (m0 : Nat) (g : Nat) (s9 : Value) (wr : World) : Prop :=
  ∃ m : Nat, g = old.length - m ∧ m ≤ old.length ∧ m0 ≤ m ∧ s9 = .int .i64 m ∧ (∀ j, m0 ≤ j → j < m → old.getD j 0 ≠ x) ∧ ∃ n, wr = W.drewN n
def RNRel4 (W : World) (c all : List Int) (n0 : Nat) (g : Nat) (s10 : Value) (wr : World) : Prop :=
  ∃ n : Nat, g = c.length - n ∧ n ≤ c.length ∧ n0 ≤ n ∧ s10 = .int .i64 n ∧ (∀ j, n0 ≤ j → j < n → c.getD j 0 ∉ all) ∧ ∃ n, wr = W.drewN n

set_option maxRecDepth 100000 in
set_option maxHeartbeats 8000000 in
theorem rnext_any (S : Nat → Prop) (w : World) (e e' : Int) (a a' : Option Addr) (c c' : Nat) (ls ls' : List (List Int)) (h : ListsAt S w a ls) (h' : ListsAt S w a' ls') :
    Calls Tryz.prog 23 #[.agg #[.int .i64 e, .slice a ls.length c], .agg #[.int .i64 e', .slice a' ls'.length c']] w (BoolBelow w (nextB ⟨e, ls⟩ ⟨e', ls'⟩)) := by
  have HL := Lib.hid h
  have HL' := Lib.hid h'
  have hn := h.1
  have hn' := h'.1
  clear h h'
  obtain ⟨W0, hW0, hB0, hz0, p0, p1, q0, q1⟩ := twoBox w 24 (.int .i64 e) (.slice a ls.length c) (.int .i64 e') (.slice a' ls'.length c')
  have hg1 := rgood_any S W0 e a c ls (HL.out.mod (Mod.of_below (F := none') hB0) (fun _ _ _ => id))
  have hG1 := Lib.hid (fun (w1 : World) (hB : Below W0.heap.size W0 w1) => rgood_any S w1 e' a' c' ls' (HL'.out.mod (Mod.of_below (F := none') (hB0.trans (hB.mono (by omega)))) (fun _ _ _ => id)))
  have HW0 := Lib.hid hW0
  clear hW0
  by_cases hp : goodB ⟨e, ls⟩ = true
  case neg =>
    have hp' : goodB ⟨e, ls⟩ = false := by simpa using hp
    have HR := Lib.hid (next_no (p := ⟨e, ls⟩) (q := ⟨e', ls'⟩) (fun hx => hp (decide_eq_true hx.1)))
    rw [hp'] at hg1
    clear hp hp'
    go_enter Tryz.func23, Tryz.ntmps23
    go_wp2_with fail
    rw [← HW0.out]
    refine hg1.mono ?_
    clear hg1
    rintro r w1 ⟨rfl, hB1⟩
    go_wp2_with fail
    go_ret
    rw [HR.out]
    exact ⟨rfl, hB0.trans (hB1.mono (by omega))⟩
  case pos =>
  by_cases hq : goodB ⟨e', ls'⟩ = true
  case neg =>
    have hq' : goodB ⟨e', ls'⟩ = false := by simpa using hq
    have HR := Lib.hid (next_no (p := ⟨e, ls⟩) (q := ⟨e', ls'⟩) (fun hx => hq (decide_eq_true hx.2.1)))
    have HQ := Lib.hid hq'
    rw [hp] at hg1
    clear hp hq hq'
    go_enter Tryz.func23, Tryz.ntmps23
    go_wp2_with fail
    rw [← HW0.out]
    refine hg1.mono ?_
    clear hg1
    rintro r w1 ⟨rfl, hB1⟩
    obtain ⟨hc1, -⟩ := bcell hB1
    have hz1 := hB1.size
    rw [hz0] at hc1
    have hg2 := hG1.out w1 hB1
    rw [HQ.out] at hg2
    go_wp2_with fail
    refine hg2.mono ?_
    clear hg2
    rintro r w2 ⟨rfl, hB2⟩
    have hBw1 := hB0.trans (hB1.mono (by omega))
    have hBw2 := hBw1.trans (hB2.mono (by omega))
    have hB02 := hB1.trans (hB2.mono (by omega))
    have hz2 := hB02.size
    have t0 := below_at hB02 p0 (by omega)
    have t1 := below_at hB02 p1 (by omega)
    have t2 := below_at hB02 q0 (by omega)
    have t3 := below_at hB02 q1 (by omega)
    clear hc1 hG1 p0 p1 q0 q1 hB1 hB2 hz1
    go_wp2_with fail
    go_ret
    rw [HR.out]
    exact ⟨rfl, hBw2⟩
  case pos =>
  have gp : Proj.good ⟨e, ls⟩ := of_decide_eq_true hp
  have gq : Proj.good ⟨e', ls'⟩ := of_decide_eq_true hq
  obtain ⟨ge1, ge2, gl1, gl2, gc, -, -⟩ := gp
  obtain ⟨ge1', ge2', gl1', gl2', gc', -, -⟩ := gq
  simp only at ge1 ge2 gl1 gl2 gc ge1' ge2' gl1' gl2' gc'
  have Hc := Lib.hid ((forall_getD (P := fun c => 1 ≤ c.length ∧ c.length ≤ 4)).1 gc)
  have Hc' := Lib.hid ((forall_getD (P := fun c => 1 ≤ c.length ∧ c.length ≤ 4)).1 gc')
  have HP := Lib.hid hp
  have HQ := Lib.hid hq
  rw [hp] at hg1
  clear hp hq gc gc'
  by_cases he : e' = e + 1
  case neg =>
    have HR := Lib.hid (next_no (p := ⟨e, ls⟩) (q := ⟨e', ls'⟩) (fun hx => he hx.2.2.1))
    have hne : (e' != e + 1) = true := by rw [bne_iff_ne]; omega
    clear he
    go_enter Tryz.func23, Tryz.ntmps23
    go_wp2_with fail
    rw [← HW0.out]
    refine hg1.mono ?_
    clear hg1
    rintro r w1 ⟨rfl, hB1⟩
    obtain ⟨hc1, -⟩ := bcell hB1
    have hz1 := hB1.size
    rw [hz0] at hc1
    have hg2 := hG1.out w1 hB1
    rw [HQ.out] at hg2
    go_wp2_with fail
    refine hg2.mono ?_
    clear hg2
    rintro r w2 ⟨rfl, hB2⟩
    have hBw1 := hB0.trans (hB1.mono (by omega))
    have hBw2 := hBw1.trans (hB2.mono (by omega))
    have hB02 := hB1.trans (hB2.mono (by omega))
    have hz2 := hB02.size
    have t0 := below_at hB02 p0 (by omega)
    have t1 := below_at hB02 p1 (by omega)
    have t2 := below_at hB02 q0 (by omega)
    have t3 := below_at hB02 q1 (by omega)
    clear hc1 hG1 p0 p1 q0 q1 hB1 hB2 hz1
    go_wp2_with fail
    go_ret
    rw [HR.out]
    exact ⟨rfl, hBw2⟩
  case pos =>
  have hee : (e' != e + 1) = false := by rw [he]; simp
  have He := Lib.hid he
  clear he
  by_cases hlen : ls'.length = ls.length
  case neg =>
    have HR := Lib.hid (next_no (p := ⟨e, ls⟩) (q := ⟨e', ls'⟩) (fun hx => hlen hx.2.2.2.1))
    have hne : ((ls'.length : Int) != (ls.length : Int)) = true := by rw [bne_iff_ne]; omega
    clear hlen
    go_enter Tryz.func23, Tryz.ntmps23
    go_wp2_with fail
    rw [← HW0.out]
    refine hg1.mono ?_
    clear hg1
    rintro r w1 ⟨rfl, hB1⟩
    obtain ⟨hc1, -⟩ := bcell hB1
    have hz1 := hB1.size
    rw [hz0] at hc1
    have hg2 := hG1.out w1 hB1
    rw [HQ.out] at hg2
    go_wp2_with fail
    refine hg2.mono ?_
    clear hg2
    rintro r w2 ⟨rfl, hB2⟩
    have hBw1 := hB0.trans (hB1.mono (by omega))
    have hBw2 := hBw1.trans (hB2.mono (by omega))
    have hB02 := hB1.trans (hB2.mono (by omega))
    have hz2 := hB02.size
    have t0 := below_at hB02 p0 (by omega)
    have t1 := below_at hB02 p1 (by omega)
    have t2 := below_at hB02 q0 (by omega)
    have t3 := below_at hB02 q1 (by omega)
    clear hc1 hG1 p0 p1 q0 q1 hB1 hB2 hz1
    go_wp2_with fail
    go_ret
    rw [HR.out]
    exact ⟨rfl, hBw2⟩
  case pos =>
  have hll : ((ls'.length : Int) != (ls.length : Int)) = false := by simp [hlen]
  have Hlen := Lib.hid hlen
  have hle1 : ls.length ≤ ls'.length := by omega
  have hle2 : ls'.length ≤ ls.length := by omega
  clear hlen
  have hSm : Small ls := ⟨by omega, fun i hi => by have := (Hc.out i hi).2; omega⟩
  have HSm := Lib.hid hSm
  clear hSm
  go_enter Tryz.func23, Tryz.ntmps23
  go_wp2_with fail
  rw [← HW0.out]
  refine hg1.mono ?_
  clear hg1
  rintro r w1 ⟨rfl, hB1⟩
  obtain ⟨hc1, -⟩ := bcell hB1
  have hz1 := hB1.size
  rw [hz0] at hc1
  have hg2 := hG1.out w1 hB1
  rw [HQ.out] at hg2
  go_wp2_with fail
  refine hg2.mono ?_
  clear hg2
  rintro r w2 ⟨rfl, hB2⟩
  have hBw1 := hB0.trans (hB1.mono (by omega))
  have hBw2 := hBw1.trans (hB2.mono (by omega))
  have hB02 := hB1.trans (hB2.mono (by omega))
  have hz2 := hB02.size
  have t0 := below_at hB02 p0 (by omega)
  have t1 := below_at hB02 p1 (by omega)
  have t2 := below_at hB02 q0 (by omega)
  have t3 := below_at hB02 q1 (by omega)
  clear hc1 hG1 p0 p1 q0 q1 hB1 hB2 hz1
  have hmt := runits_any S w2 e a c ls HSm.out (HL.out.mod (Mod.of_below (F := none') hBw2) (fun _ _ _ => id))
  go_wp2_with fail
  refine hmt.mono ?_
  clear hmt
  rintro r w3 ⟨ua, uc, rfl, hU, hB3, -⟩
  have hz3 := hB3.size
  have hBw3 := hBw2.trans (hB3.mono hBw2.size)
  replace t0 := below_at hB3 t0 (by omega)
  replace t1 := below_at hB3 t1 (by omega)
  replace t2 := below_at hB3 t2 (by omega)
  replace t3 := below_at hB3 t3 (by omega)
  have HU := Lib.hid hU
  have HM : Hid (∀ x, x ∈ unitsOf ls.flatten ↔ x ∈ ls.flatten) := Lib.hid (fun x => mem_unitsOf)
  generalize unitsOf ls.flatten = all at *
  obtain ⟨pb, hpb⟩ : ∃ pb, pb = w.heap.size := ⟨_, rfl⟩
  rw [← hpb] at t0 t1 t2 t3
  go_wp2_with fail
  rw [← hpb]
  have s2 : pb + 1 < w3.heap.size := by omega
  have HB3 := Lib.hid hBw3
  clear hpb hB0 hBw1 hBw2 hB02 hB3 hU hBw3
  go_loopg [6] ls'.length (fun g s6 wr => RNRel1 w3 ls ls' g s6 wr)
  case atStart => exact ⟨0, rfl, Nat.zero_le _, rfl, fun j hj => absurd hj (by omega), 0, rfl⟩
  case round =>
    obtain ⟨k, rfl, hk, rfl, hj, nd, rfl⟩ := hrel
    have Hj := Lib.hid hj
    clear hj
    by_cases hlt : k < ls'.length
    · have hlt2 : k < ls.length := by omega
      have hkq := (Hc'.out k hlt)
      have hkp := (Hc.out k hlt2)
      obtain ⟨b, off, rfl, -, hb, hcx⟩ := HL.out.2 (by omega)
      obtain ⟨ia, ic, hc1, hi1, hcp1⟩ := hcx k hlt2
      clear hcx
      obtain ⟨b', off', rfl, -, hb', hcx⟩ := HL'.out.2 (by omega)
      obtain ⟨ia', ic', hc1', hi1', hcp1'⟩ := hcx k hlt
      clear hcx
      replace hc1 := below_at HB3.out hc1 hb
      replace hc1' := below_at HB3.out hc1' hb'
      have hiw := hi1.mod (Mod.of_below (F := none') HB3.out) (fun _ _ _ => id)
      have hiw' := hi1'.mod (Mod.of_below (F := none') HB3.out) (fun _ _ _ => id)
      clear hi1 hi1'
      have hk1 : (0 : Int) ≤ k := by omega
      have hk2 : (k : Int) < ls'.length := by omega
      have hk3 : (k : Int) < ls.length := by omega
      have HO : Hid (∀ x, x ∈ ls.getD k [] → x ∈ ls.flatten) := Lib.hid (fun x hx => List.mem_flatten.2 ⟨_, getD_mem hlt2, hx⟩)
      have HBAD : Hid (∀ h : ¬ chainNext (ls.getD k []) ls.flatten (ls'.getD k []), nextB ⟨e, ls⟩ ⟨e', ls'⟩ = false) := Lib.hid (fun h => next_no (fun hx => h (hx.2.2.2.2 k hlt)))
      generalize hold : ls.getD k [] = old at *
      generalize hnow : ls'.getD k [] = now at *
      have Hold := Lib.hid hold
      have Hnow := Lib.hid hnow
      have HI := Lib.hid hiw
      have HI' := Lib.hid hiw'
      clear hold hnow hiw hiw'
      go_wp2_with fail
      go_quiet (fail)
      go_wp2_with fail
      go_loopg [9, 10] now.length (fun g s9 s10 wr => RNRel2 w3 old now g s9 s10 wr)
      case atStart => exact ⟨0, 0, rfl, rfl, rfl, HeadsAt.start _ _, _, (by first | rfl | exact World.drewN_drewN _ _ _)⟩
      case round =>
        obtain ⟨n, at', rfl, rfl, rfl, hH, nd2, rfl⟩ := hrel
        have h1 := hH.1
        have h2 := hH.2.1
        have HH := Lib.hid hH
        clear hH
        by_cases hn1 : n < now.length
        · obtain ⟨b3, off3, e3, -, hbb3, hcell3⟩ := HI'.out.2 (by omega)
          have u3 := hcell3 n hn1
          subst e3
          clear hcell3
          have hn2 : (0 : Int) ≤ n := by omega
          have hn3 : (n : Int) < now.length := by omega
          generalize hx : now.getD n 0 = x at u3
          have Hx := Lib.hid hx
          clear hx
          have hhas := has_any S (w3.drewN nd2) ia ic old x (HI.out.mod ((Mod.refl none' _).drewN _) (fun _ _ _ => id))
          by_cases hin : x ∈ old
          · rw [decide_eq_true hin] at hhas
            have Hin := Lib.hid hin
            clear hin
            go_wp2_with fail
            refine hhas.mono ?_
            clear hhas
            rintro r w5 ⟨rfl, rfl⟩
            go_wp2_with fail
            go_loopg [9] (old.length - at') (fun g s9 wr => RNRel3 w3 old x at' g s9 wr)
            case atStart => exact ⟨at', rfl, h2, Nat.le_refl _, rfl, fun j h1 h2 => absurd h1 (by omega), _, (by first | rfl | exact World.drewN_drewN _ _ _)⟩
            case round =>
              obtain ⟨m, rfl, hm1, hm2, rfl, hmj, nd3, rfl⟩ := hrel
              have Hmj := Lib.hid hmj
              clear hmj
              by_cases hm3 : m < old.length
              · obtain ⟨b2, off2, e2, -, hbb2, hcell2⟩ := HI.out.2 (by omega)
                have u2 := hcell2 m hm3
                subst e2
                clear hcell2
                have hm4 : (0 : Int) ≤ m := by omega
                have hm5 : (m : Int) < old.length := by omega
                generalize hy : old.getD m 0 = y at u2
                have Hy := Lib.hid hy
                clear hy
                by_cases hyx : y = x
                · have hyx' : (y != x) = false := by simp [hyx]
                  have HN := Lib.hid (HH.out.step hn1 (by rw [Hx.out]; exact posOf_drop hm2 hm3 (Hy.out.trans hyx) Hmj.out))
                  have hmne : ((m : Int) == (old.length : Int)) = false := by simp; omega
                  clear hyx
                  go_wp2_with fail
                  go_quiet (fail)
                  go_wp2_with fail
                  go_roundg (now.length - (n + 1))
                  case measure => omega
                  case rel => exact ⟨n + 1, at' + (m - at') + 1, rfl, by go_num, by rw [show at' + (m - at') = m by omega]; go_num, HN.out, _, (by first | rfl | exact World.drewN_drewN _ _ _)⟩
                · have hyx' : (y != x) = true := by simp [hyx]
                  have Hyx := Lib.hid hyx
                  clear hyx
                  go_wp2_with fail
                  go_quiet (fail)
                  go_wp2_with fail
                  go_roundg (old.length - (m + 1))
                  case measure => omega
                  case rel =>
                    refine ⟨m + 1, rfl, by omega, by omega, by go_num, fun j h1 h2 => ?_, _, (by first | rfl | exact World.drewN_drewN _ _ _)⟩
                    by_cases ej : j = m
                    · subst ej; rw [Hy.out]; exact Hyx.out
                    · exact Hmj.out j h1 (by omega)
              · have hm6 : m = old.length := by omega
                have hd3 : decide ((m : Int) < (old.length : Int)) = false := by simp; omega
                have hd4 : decide (m < old.length) = false := by simp; omega
                have HR := Lib.hid (HBAD.out (HH.out.bad hn1 (by rw [Hx.out]; exact posOf_drop_none (fun j h1 h2 => Hmj.out j h1 (by omega))) (by rw [Hx.out]; exact HO.out x Hin.out)))
                have hm7 : ((m : Int) == (old.length : Int)) = true := by simp [hm6]
                have hm8 : old.length ≤ m := by omega
                have hm9 : (old.length : Int) ≤ m := by omega
                clear hm6 hm3
                go_wp2_with fail
                go_quiet (fail)
                go_wp2_with fail
                go_ret
                rw [HR.out]
                exact ⟨rfl, by have hBx := HB3.out; exact belC hBx⟩
          · rw [decide_eq_false hin] at hhas
            have HN := Lib.hid (HH.out.stop' hn1 (by rw [Hx.out]; exact hin))
            clear hin
            go_wp2_with fail
            refine hhas.mono ?_
            clear hhas
            rintro r w5 ⟨rfl, rfl⟩
            have hnl : n ≤ now.length := by omega
            by_cases hn0 : n = 0
            · have HR := Lib.hid (HBAD.out (fun hx => hx.1 (by rw [HN.out]; exact hn0)))
              have hn5 : ((n : Int) == 0) = true := by simp [hn0]
              clear hn0
              go_wp2_with fail
              go_ret
              rw [HR.out]
              exact ⟨rfl, by have hBx := HB3.out; exact belC hBx⟩
            ·
              have hn5 : ((n : Int) == 0) = false := by simp; omega
              have Hn0 := Lib.hid hn0
              clear hn0
              go_wp2_with fail
              go_loopg [10] (now.length - n) (fun g s10 wr => RNRel4 w3 now ls.flatten n g s10 wr)
              case atStart => exact ⟨n, rfl, hnl, Nat.le_refl _, rfl, fun j h1 h2 => absurd h1 (by omega), _, (by first | rfl | exact World.drewN_drewN _ _ _)⟩
              case round =>
                obtain ⟨m, rfl, hm1, hm2, rfl, hmj, nd3, rfl⟩ := hrel
                have Hmj := Lib.hid hmj
                clear hmj
                by_cases hm3 : m < now.length
                · obtain ⟨b4, off4, e4, -, hbb4, hcell4⟩ := HI'.out.2 (by omega)
                  have u4 := hcell4 m hm3
                  clear hcell4
                  have hm4 : (0 : Int) ≤ m := by omega
                  have hm5 : (m : Int) < now.length := by omega
                  have HMD := Lib.hid (getD_mem_drop hm2 hm3)
                  generalize hy : now.getD m 0 = y at *
                  have Hy := Lib.hid hy
                  clear hy
                  have hhas := has_any (From w2.heap.size) (w3.drewN nd3) ua uc all y (HU.out.mod ((Mod.refl none' _).drewN _) (fun _ _ _ => id))
                  cases e4
                  by_cases hin : y ∈ all
                  · rw [decide_eq_true hin] at hhas
                    have HR := Lib.hid (HBAD.out (fun hx => hx.2 y (by rw [HN.out]; exact HMD.out) ((HM.out y).1 hin)))
                    clear hin
                    go_wp2_with fail
                    refine hhas.mono ?_
                    clear hhas
                    rintro r w6 ⟨rfl, rfl⟩
                    go_wp2_with fail
                    go_ret
                    rw [HR.out]
                    exact ⟨rfl, by have hBx := HB3.out; exact belC hBx⟩
                  · rw [decide_eq_false hin] at hhas
                    have Hin := Lib.hid hin
                    clear hin
                    go_wp2_with fail
                    refine hhas.mono ?_
                    clear hhas
                    rintro r w6 ⟨rfl, rfl⟩
                    go_wp2_with fail
                    go_roundg (now.length - (m + 1))
                    case measure => omega
                    case rel =>
                      refine ⟨m + 1, rfl, by omega, by omega, by go_num, fun j h1 h2 => ?_, _, rfl⟩
                      by_cases ej : j = m
                      · subst ej; rw [Hy.out]; exact fun h => Hin.out ((HM.out _).2 h)
                      · exact Hmj.out j h1 (by omega)
                · have hm6 : m = now.length := by omega
                  have HOK : Hid (chainNext old ls.flatten now) := Lib.hid ⟨by rw [HN.out]; exact Hn0.out, by rw [HN.out]; exact mem_drop_getD (fun j h1 h2 => Hmj.out j h1 (by omega))⟩
                  go_wp2_with fail
                  go_roundg (ls'.length - (k + 1))
                  case measure => omega
                  case rel =>
                    refine ⟨k + 1, rfl, by omega, by go_num, fun j hj => ?_, _, rfl⟩
                    by_cases ej : j = k
                    · subst ej; rw [Hold.out, Hnow.out]; exact HOK.out
                    · exact Hj.out j (by omega)
        · have hn2 : n = now.length := by omega
          have HN := Lib.hid (HH.out.out hn2)
          have hnl : n ≤ now.length := by omega
          have hn0 : ¬ n = 0 := by omega
          have hnl2 : now.length ≤ n := by omega
          clear hn2 hn1
          have hn5 : ((n : Int) == 0) = false := by simp; omega
          have Hn0 := Lib.hid hn0
          clear hn0
          go_wp2_with fail
          go_loopg [10] (now.length - n) (fun g s10 wr => RNRel4 w3 now ls.flatten n g s10 wr)
          case atStart => exact ⟨n, rfl, hnl, Nat.le_refl _, rfl, fun j h1 h2 => absurd h1 (by omega), _, (by first | rfl | exact World.drewN_drewN _ _ _)⟩
          case round =>
            obtain ⟨m, rfl, hm1, hm2, rfl, hmj, nd3, rfl⟩ := hrel
            have Hmj := Lib.hid hmj
            clear hmj
            by_cases hm3 : m < now.length
            · obtain ⟨b4, off4, e4, -, hbb4, hcell4⟩ := HI'.out.2 (by omega)
              have u4 := hcell4 m hm3
              clear hcell4
              have hm4 : (0 : Int) ≤ m := by omega
              have hm5 : (m : Int) < now.length := by omega
              have HMD := Lib.hid (getD_mem_drop hm2 hm3)
              generalize hy : now.getD m 0 = y at *
              have Hy := Lib.hid hy
              clear hy
              have hhas := has_any (From w2.heap.size) (w3.drewN nd3) ua uc all y (HU.out.mod ((Mod.refl none' _).drewN _) (fun _ _ _ => id))
              cases e4
              by_cases hin : y ∈ all
              · rw [decide_eq_true hin] at hhas
                have HR := Lib.hid (HBAD.out (fun hx => hx.2 y (by rw [HN.out]; exact HMD.out) ((HM.out y).1 hin)))
                clear hin
                go_wp2_with fail
                refine hhas.mono ?_
                clear hhas
                rintro r w6 ⟨rfl, rfl⟩
                go_wp2_with fail
                go_ret
                rw [HR.out]
                exact ⟨rfl, by have hBx := HB3.out; exact belC hBx⟩
              · rw [decide_eq_false hin] at hhas
                have Hin := Lib.hid hin
                clear hin
                go_wp2_with fail
                refine hhas.mono ?_
                clear hhas
                rintro r w6 ⟨rfl, rfl⟩
                go_wp2_with fail
                go_roundg (now.length - (m + 1))
                case measure => omega
                case rel =>
                  refine ⟨m + 1, rfl, by omega, by omega, by go_num, fun j h1 h2 => ?_, _, rfl⟩
                  by_cases ej : j = m
                  · subst ej; rw [Hy.out]; exact fun h => Hin.out ((HM.out _).2 h)
                  · exact Hmj.out j h1 (by omega)
            · have hm6 : m = now.length := by omega
              have HOK : Hid (chainNext old ls.flatten now) := Lib.hid ⟨by rw [HN.out]; exact Hn0.out, by rw [HN.out]; exact mem_drop_getD (fun j h1 h2 => Hmj.out j h1 (by omega))⟩
              go_wp2_with fail
              go_roundg (ls'.length - (k + 1))
              case measure => omega
              case rel =>
                refine ⟨k + 1, rfl, by omega, by go_num, fun j hj => ?_, _, rfl⟩
                by_cases ej : j = k
                · subst ej; rw [Hold.out, Hnow.out]; exact HOK.out
                · exact Hj.out j (by omega)
    · have hk3 : k = ls'.length := by omega
      have HR : Hid (nextB ⟨e, ls⟩ ⟨e', ls'⟩ = true) := Lib.hid (decide_eq_true ⟨of_decide_eq_true HP.out, of_decide_eq_true HQ.out, He.out, Hlen.out, fun j hj => Hj.out j (by rw [hk3]; exact hj)⟩)
      go_wp2_with fail
      go_ret
      rw [HR.out]
      exact ⟨rfl, by have hBx := HB3.out; exact belC hBx⟩
end Go.Proofs.YtghdhhbpbmhooaaGreat
