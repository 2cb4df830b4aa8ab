/- which projection may come next -/
import Derived.Test.YtghdhhbpbmhooaaGreatGood
import Derived.Test.YtghdhhbpbmhooaaGreatSlices
import Derived.Test.YtghdhhbpbmhooaaGreatPkKeep
import Derived.Deep.RegionLaw
namespace Go.Proofs.YtghdhhbpbmhooaaGreat
open Go.RowKit Esch

theorem cnt_look {w : World} {mb : Nat} {us : List Int} (h : MapCnt w mb us) (u : Int) : ∃ c : Int, decide (0 < c) = decide (u ∈ us) ∧
    (Instr.lookup 141 (.map (some mb)) (.agg #[.int .i64 u]) false).run Tryz.prog w = .ok (.int .i64 c) w := by
  obtain ⟨m, es, clock, hm, hg⟩ := h
  have l1 := hm.look keyUnit Tryz.underlying141 zeroInt u false
  have hv : ((get m u).map κint).getD (.int .i64 0) = .int .i64 ((get m u).getD 0) := by cases get m u <;> rfl
  simp only [Bool.false_eq_true, if_false, hv] at l1
  refine ⟨(get m u).getD 0, ?_, l1⟩
  rw [hg]
  exact decide_eq_decide.2 (cntO_pos us u)

set_option maxHeartbeats 1000000 in
theorem next1_any (w : World) (ob mb : Nat) (us : List Int) (u : Int) (ho : w.cell? ⟨ob, 0, none⟩ = some (.map (some mb))) (h : MapCnt w mb us) :
    Calls Tryz.prog 82 #[.int .i64 u, .pointer (some ⟨ob, 0, none⟩)] w (Drawn w (.bool (decide (u ∈ us)))) := by
  obtain ⟨c, hc, hl⟩ := cnt_look h u
  rw [← hc]
  clear hc h
  go_enter Tryz.func82, Tryz.ntmps82
  go_wp2_with fail
  go_ret
  exact ⟨rfl, 0, rfl⟩

theorem index_drawn (S : Nat → Prop) (w : World) (a : Option Addr) (c : Nat) (l : List Int) (x : Int) (h : IntsAt S w a l) :
    Calls Tryz.prog 80 #[.slice a l.length c, .int .i64 x] w (Drawn w (.int .i64 (idxI l x))) := (index_any S w a c l x h).mono fun _ _ ⟨h1, h2⟩ => ⟨h1, 0, h2.symm⟩

def NextRel1 (w : World) (ls ls' : List (List Int)) (g : Nat) (s41 : Value) (wr : World) : Prop :=
  ∃ k : Nat, g = ls'.length - k ∧ k ≤ ls'.length ∧ s41 = .int .i64 k ∧ (∀ j, j < k → chainNext (ls.getD j []) ls.flatten (ls'.getD j [])) ∧ Below w.heap.size w wr
def NextRel2 (w : World) (old c : List Int) (g : Nat) (s8 s9 : Value) (wr : World) : Prop :=
  ∃ n at' : Nat, g = c.length - n ∧ s9 = .int .i64 n ∧ s8 = .int .i64 at' ∧ HeadsAt old c n at' ∧ Below w.heap.size w wr
/-- one and two boxes for what came in -/
theorem oneBox (w : World) (T : TypeId) (x0 x1 : Value) : ∃ W0, W0 = w.alloc (.cells #[x0, x1] T) ∧ Below w.heap.size w W0 ∧ W0.heap.size = w.heap.size + 1 ∧
    W0.cell? ⟨w.heap.size, 0, none⟩ = some x0 ∧ W0.cell? ⟨w.heap.size, 1, none⟩ = some x1 := ⟨_, rfl, by exact belC (Below.refl _ _), by simp, by go_simp, by go_simp⟩
theorem twoBox (w : World) (T : TypeId) (x0 x1 y0 y1 : Value) : ∃ W0, W0 = (w.alloc (.cells #[x0, x1] T)).alloc (.cells #[y0, y1] T) ∧ Below w.heap.size w W0 ∧ W0.heap.size = w.heap.size + 2 ∧
    W0.cell? ⟨w.heap.size, 0, none⟩ = some x0 ∧ W0.cell? ⟨w.heap.size, 1, none⟩ = some x1 ∧ W0.cell? ⟨w.heap.size + 1, 0, none⟩ = some y0 ∧ W0.cell? ⟨w.heap.size + 1, 1, none⟩ = some y1 :=
  ⟨_, rfl, by exact belC (Below.refl _ _), by simp, by go_simp, by go_simp, by go_simp, by go_simp⟩
theorem next_no {p q : Proj} (h : ¬ p.next q) : nextB p q = false := decide_eq_false h

set_option maxRecDepth 100000 in
set_option maxHeartbeats 4000000 in
theorem next_any (S : Nat → Prop) (w : World) (e e' : Int) (a a' : Option Addr) (c c' : Nat) (ls ls' : List (List Int)) (h : ListsAt S w a ls) (h' : ListsAt S w a' ls') :
    Calls Tryz.prog 54 #[.agg #[.int .i64 e, .slice a ls.length c], .agg #[.int .i64 e', .slice a' ls'.length c']] w (BoolBelow w (nextB ⟨e, ls⟩ ⟨e', ls'⟩)) := by
  have HL := Lib.hid h
  have HL' := Lib.hid h'
  have hn := h.1
  have hn' := h'.1
  clear h h'
  obtain ⟨W0, hW0, hB0, hz0, p0, p1, q0, q1⟩ := twoBox w 24 (.int .i64 e) (.slice a ls.length c) (.int .i64 e') (.slice a' ls'.length c')
  have hg1 := good_any S W0 e a c ls (HL.out.mod (Mod.of_below (F := none') hB0) (fun _ _ _ => id))
  have hG1 := Lib.hid (fun (w1 : World) (hB : Below W0.heap.size W0 w1) => good_any S w1 e' a' c' ls' (HL'.out.mod (Mod.of_below (F := none') (hB0.trans (hB.mono (by omega)))) (fun _ _ _ => id)))
  have HW0 := Lib.hid hW0
  clear hW0
  by_cases hp : goodB ⟨e, ls⟩ = true
  case neg =>
    have hp' : goodB ⟨e, ls⟩ = false := by simpa using hp
    have HR := Lib.hid (next_no (p := ⟨e, ls⟩) (q := ⟨e', ls'⟩) (fun hx => hp (decide_eq_true hx.1)))
    rw [hp'] at hg1
    clear hp hp'
    go_enter Tryz.func54, Tryz.ntmps54
    go_wp2_with fail
    rw [← HW0.out]
    refine hg1.mono ?_
    clear hg1
    rintro r w1 ⟨rfl, hB1⟩
    go_wp2_with fail
    go_ret
    rw [HR.out]
    exact ⟨rfl, hB0.trans (hB1.mono (by omega))⟩
  case pos =>
  by_cases hq : goodB ⟨e', ls'⟩ = true
  case neg =>
    have hq' : goodB ⟨e', ls'⟩ = false := by simpa using hq
    have HR := Lib.hid (next_no (p := ⟨e, ls⟩) (q := ⟨e', ls'⟩) (fun hx => hq (decide_eq_true hx.2.1)))
    have HQ := Lib.hid hq'
    rw [hp] at hg1
    clear hp hq hq'
    go_enter Tryz.func54, Tryz.ntmps54
    go_wp2_with fail
    rw [← HW0.out]
    refine hg1.mono ?_
    clear hg1
    rintro r w1 ⟨rfl, hB1⟩
    obtain ⟨hc1, -⟩ := bcell hB1
    have hz1 := hB1.size
    rw [hz0] at hc1
    have hg2 := hG1.out w1 hB1
    rw [HQ.out] at hg2
    go_wp2_with fail
    refine hg2.mono ?_
    clear hg2
    rintro r w2 ⟨rfl, hB2⟩
    go_wp2_with fail
    go_ret
    rw [HR.out]
    exact ⟨rfl, (hB0.trans (hB1.mono (by omega))).trans (hB2.mono (by omega))⟩
  case pos =>
  have gp : Proj.good ⟨e, ls⟩ := of_decide_eq_true hp
  have gq : Proj.good ⟨e', ls'⟩ := of_decide_eq_true hq
  obtain ⟨ge1, ge2, gl1, gl2, gc, -, -⟩ := gp
  obtain ⟨ge1', ge2', gl1', gl2', gc', -, -⟩ := gq
  simp only at ge1 ge2 gl1 gl2 gc ge1' ge2' gl1' gl2' gc'
  have Hc := Lib.hid ((forall_getD (P := fun c => 1 ≤ c.length ∧ c.length ≤ 4)).1 gc)
  have Hc' := Lib.hid ((forall_getD (P := fun c => 1 ≤ c.length ∧ c.length ≤ 4)).1 gc')
  have HP := Lib.hid hp
  have HQ := Lib.hid hq
  rw [hp] at hg1
  clear hp hq gc gc'
  by_cases he : e' = e + 1
  case neg =>
    have HR := Lib.hid (next_no (p := ⟨e, ls⟩) (q := ⟨e', ls'⟩) (fun hx => he hx.2.2.1))
    have hne : (e' - 1 != e) = true := by rw [bne_iff_ne]; omega
    clear he
    go_enter Tryz.func54, Tryz.ntmps54
    go_wp2_with fail
    rw [← HW0.out]
    refine hg1.mono ?_
    clear hg1
    rintro r w1 ⟨rfl, hB1⟩
    obtain ⟨hc1, -⟩ := bcell hB1
    have hz1 := hB1.size
    rw [hz0] at hc1
    have hg2 := hG1.out w1 hB1
    rw [HQ.out] at hg2
    go_wp2_with fail
    refine hg2.mono ?_
    clear hg2
    rintro r w2 ⟨rfl, hB2⟩
    have hBw1 := hB0.trans (hB1.mono (by omega))
    have hBw2 := hBw1.trans (hB2.mono (by omega))
    have hB02 := hB1.trans (hB2.mono (by omega))
    have hz2 := hB02.size
    have t0 := below_at hB02 p0 (by omega)
    have t1 := below_at hB02 p1 (by omega)
    have t2 := below_at hB02 q0 (by omega)
    have t3 := below_at hB02 q1 (by omega)
    clear hc1 hG1 p0 p1 q0 q1 hB1 hB2 hz1
    go_wp2_with fail
    go_ret
    rw [HR.out]
    exact ⟨rfl, hBw2⟩
  case pos =>
  have hee : (e' - 1 != e) = false := by rw [he]; simp
  have He := Lib.hid he
  clear he
  by_cases hlen : ls'.length = ls.length
  case neg =>
    have HR := Lib.hid (next_no (p := ⟨e, ls⟩) (q := ⟨e', ls'⟩) (fun hx => hlen hx.2.2.2.1))
    have hne : ((ls.length : Int) != (ls'.length : Int)) = true := by rw [bne_iff_ne]; omega
    clear hlen
    go_enter Tryz.func54, Tryz.ntmps54
    go_wp2_with fail
    rw [← HW0.out]
    refine hg1.mono ?_
    clear hg1
    rintro r w1 ⟨rfl, hB1⟩
    obtain ⟨hc1, -⟩ := bcell hB1
    have hz1 := hB1.size
    rw [hz0] at hc1
    have hg2 := hG1.out w1 hB1
    rw [HQ.out] at hg2
    go_wp2_with fail
    refine hg2.mono ?_
    clear hg2
    rintro r w2 ⟨rfl, hB2⟩
    have hBw1 := hB0.trans (hB1.mono (by omega))
    have hBw2 := hBw1.trans (hB2.mono (by omega))
    have hB02 := hB1.trans (hB2.mono (by omega))
    have hz2 := hB02.size
    have t0 := below_at hB02 p0 (by omega)
    have t1 := below_at hB02 p1 (by omega)
    have t2 := below_at hB02 q0 (by omega)
    have t3 := below_at hB02 q1 (by omega)
    clear hc1 hG1 p0 p1 q0 q1 hB1 hB2 hz1
    go_wp2_with fail
    go_ret
    rw [HR.out]
    exact ⟨rfl, hBw2⟩
  case pos =>
  have hll : ((ls.length : Int) != (ls'.length : Int)) = false := by simp [hlen]
  have Hlen := Lib.hid hlen
  have hle1 : ls.length ≤ ls'.length := by omega
  have hle2 : ls'.length ≤ ls.length := by omega
  clear hlen
  have hSm : Small ls := ⟨by omega, fun i hi => by have := (Hc.out i hi).2; omega⟩
  have HSm := Lib.hid hSm
  clear hSm
  go_enter Tryz.func54, Tryz.ntmps54
  go_wp2_with fail
  rw [← HW0.out]
  refine hg1.mono ?_
  clear hg1
  rintro r w1 ⟨rfl, hB1⟩
  obtain ⟨hc1, -⟩ := bcell hB1
  have hz1 := hB1.size
  rw [hz0] at hc1
  have hg2 := hG1.out w1 hB1
  rw [HQ.out] at hg2
  go_wp2_with fail
  refine hg2.mono ?_
  clear hg2
  rintro r w2 ⟨rfl, hB2⟩
  have hBw1 := hB0.trans (hB1.mono (by omega))
  have hBw2 := hBw1.trans (hB2.mono (by omega))
  have hB02 := hB1.trans (hB2.mono (by omega))
  have hz2 := hB02.size
  have t0 := below_at hB02 p0 (by omega)
  have t1 := below_at hB02 p1 (by omega)
  have t2 := below_at hB02 q0 (by omega)
  have t3 := below_at hB02 q1 (by omega)
  clear hc1 hG1 p0 p1 q0 q1 hB1 hB2 hz1
  have hmt := met_any S w2 e a c ls HSm.out (HL.out.mod (Mod.of_below (F := none') hBw2) (fun _ _ _ => id))
  go_wp2_with fail
  refine hmt.mono ?_
  clear hmt
  rintro r w3 ⟨mb, rfl, hC, hmb, hB3⟩
  have hz3 := hB3.size
  have hBw3 := hBw2.trans (hB3.mono hBw2.size)
  replace t0 := below_at hB3 t0 (by omega)
  replace t1 := below_at hB3 t1 (by omega)
  replace t2 := below_at hB3 t2 (by omega)
  replace t3 := below_at hB3 t3 (by omega)
  have hqz : w.heap.size + 1 < w3.heap.size := by omega
  have hpz : w.heap.size < w3.heap.size := by omega
  go_wp2_with fail
  have hC4 := hC.mod ((Mod.refl none' w3).alloc (.cells #[.map (some mb)] 141)) id
  have ho4 : (w3.alloc (.cells #[.map (some mb)] 141)).cell? ⟨w3.heap.size, 0, none⟩ = some (.map (some mb)) := by go_simp
  have t4 : (w3.alloc (.cells #[.map (some mb)] 141)).cell? ⟨w.heap.size, 1, none⟩ = some (.slice a ls.length c) := by go_simp
  have hB4 := hBw3.alloc hBw3.size (.cells #[.map (some mb)] 141)
  have hz4 : (w3.alloc (.cells #[.map (some mb)] 141)).heap.size = w3.heap.size + 1 := by simp
  generalize w3.alloc (.cells #[.map (some mb)] 141) = W4 at *
  obtain ⟨ob, hob⟩ : ∃ ob, ob = w3.heap.size := ⟨_, rfl⟩
  rw [← hob] at ho4 ⊢
  obtain ⟨pb, hpb⟩ : ∃ pb, pb = w.heap.size := ⟨_, rfl⟩
  rw [← hpb] at t4 ⊢
  have s1 : ob < W4.heap.size := by omega
  have s2 : pb < W4.heap.size := by omega
  have s3 : mb < W4.heap.size := hC4.lt
  have HB4 := Lib.hid hB4
  clear hob hpb t0 t1 t2 t3 hC hB3 hBw3 hB0 hBw1 hBw2 hB02 hmb hB4
  go_loopg [41] ls'.length (fun g s41 wr => NextRel1 W4 ls ls' g s41 wr)
  case atStart => exact ⟨0, rfl, Nat.zero_le _, rfl, fun j hj => absurd hj (by omega), Below.refl _ _⟩
  case round =>
    obtain ⟨k, rfl, hk, rfl, hj, hB⟩ := hrel
    have Hj := Lib.hid hj
    clear hj
    by_cases hlt : k < ls'.length
    · have hlt2 : k < ls.length := by omega
      have hkq := (Hc'.out k hlt)
      have hkp := (Hc.out k hlt2)
      obtain ⟨b, off, rfl, -, hb, hcx⟩ := HL.out.2 (by omega)
      obtain ⟨ia, ic, hc1, hi1, hcp1⟩ := hcx k hlt2
      clear hcx
      obtain ⟨b', off', rfl, -, hb', hcx⟩ := HL'.out.2 (by omega)
      obtain ⟨ia', ic', hc1', hi1', hcp1'⟩ := hcx k hlt
      clear hcx
      have hBr := HB4.out.trans (hB.mono (by omega))
      replace hc1 := below_at hBr hc1 hb
      replace hc1' := below_at hBr hc1' hb'
      have hiw := hi1.mod (Mod.of_below (F := none') hBr) (fun _ _ _ => id)
      have hiw' := hi1'.mod (Mod.of_below (F := none') hBr) (fun _ _ _ => id)
      clear hi1 hi1'
      have hk1 : (0 : Int) ≤ k := by omega
      have hk2 : (k : Int) < ls'.length := by omega
      have hk3 : (k : Int) < ls.length := by omega
      have HO : Hid (∀ x, x ∈ ls.getD k [] → x ∈ ls.flatten) := Lib.hid (fun x hx => List.mem_flatten.2 ⟨_, getD_mem hlt2, hx⟩)
      have HBAD : Hid (∀ h : ¬ chainNext (ls.getD k []) ls.flatten (ls'.getD k []), nextB ⟨e, ls⟩ ⟨e', ls'⟩ = false) := Lib.hid (fun h => next_no (fun hx => h (hx.2.2.2.2 k hlt)))
      generalize hold : ls.getD k [] = old at *
      generalize hnow : ls'.getD k [] = now at *
      have Hold := Lib.hid hold
      have Hnow := Lib.hid hnow
      clear hold hnow
      have hBr0 := hB
      clear hBr
      have t5 := below_at hB t4 s2
      go_wp2_with fail
      obtain ⟨wo, rfl⟩ : ∃ wo : World, wo = wr := ⟨_, rfl⟩
      go_loopg [8, 9] now.length (fun g s8 s9 wr => NextRel2 wo old now g s8 s9 wr)
      case atStart => exact ⟨0, 0, rfl, rfl, rfl, HeadsAt.start _ _, Below.refl _ _⟩
      case round =>
        clear t5 hc1'
        obtain ⟨n, at', rfl, rfl, rfl, hH, hB2⟩ := hrel
        have h1 := hH.1
        have h2 := hH.2.1
        have HH := Lib.hid hH
        clear hH
        have hBb := hB.trans (hB2.mono hB.size)
        have u1 := below_at hBb t4 s2
        have u2 := below_at hB2 hc1 (cell_lt hc1)
        have iw := hiw.mod (Mod.of_below (F := none') hB2) (fun _ _ _ => id)
        have iw' := hiw'.mod (Mod.of_below (F := none') hB2) (fun _ _ _ => id)
        have HCL : Hid (∀ m u, Calls Tryz.prog 82 #[.int .i64 u, .pointer (some ⟨ob, 0, none⟩)] (wr.drewN m) (Drawn (wr.drewN m) (.bool (decide (u ∈ ls.flatten))))) := Lib.hid (fun m u =>
          next1_any (wr.drewN m) ob mb ls.flatten u (below_at hBb ho4 s1) (hC4.mod (F := none') (Mod.of_below hBb |>.drewN _) id))
        by_cases hn1 : n < now.length
        · obtain ⟨b2, off2, e2, -, hbb2, hcell2⟩ := iw.2 (by omega)
          obtain ⟨b3, off3, e3, -, hbb3, hcell3⟩ := iw'.2 (by omega)
          have u3 := hcell3 n hn1
          subst e2 e3
          have HD := Lib.hid (iw.drop at')
          have HIW := Lib.hid (iw'.drop n)
          have HC2 : Hid (old.length - at' = (old.drop at').length) := Lib.hid (by rw [List.length_drop])
          clear hcell2 hcell3
          have hn2 : (0 : Int) ≤ n := by omega
          have hn3 : (n : Int) < now.length := by omega
          have ha1 : (0 : Int) ≤ at' := by omega
          have ha2 : (at' : Int) ≤ old.length := by omega
          have hcpa : old.length ≤ ic := hcp1.1
          have hcpb : ic ≤ 9223372036854775807 := hcp1.2
          have ha3 : (at' : Int) ≤ ic := by omega
          have ha4 : (old.length : Int) ≤ ic := by omega
          generalize hx : now.getD n 0 = x at u3
          have Hx := Lib.hid hx
          clear hx
          by_cases hcap : ic = at'
          · have ha5 : old.length ≤ at' := by omega
            have ha6 : ic ≤ at' := by omega
            have hd0 : old.drop at' = [] := List.drop_of_length_le ha5
            have hcon : ∀ m, Calls Tryz.prog 80 #[.slice (some ⟨b2, off2, none⟩) 0 0, .int .i64 x] (wr.drewN m) (Drawn (wr.drewN m) (.int .i64 (-1))) := fun m =>
              index_drawn S _ _ _ [] _ (IntsAt.nil _ _ _)
            have HN := Lib.hid (HH.out.stop hn1 (by rw [hd0]; rfl))
            have hcap' := hcap.symm
            clear hd0
            subst hcap'
            go_wp2_with fail
            go_quiet ((go_at_call 80; exact Calls.quiet_of ((hcon _).mono (fun _ _ h => h))))
            clear hcon
            have hn7 : (n : Int) ≤ now.length := by omega
            have hcq : now.length ≤ ic' := hcp1'.1
            have hcqb : ic' ≤ 9223372036854775807 := hcp1'.2
            have hn6 : (n : Int) ≤ ic' := by omega
            have hn8 : ¬ ic' = n := by omega
            by_cases hn0 : n = 0
            · have HR := Lib.hid (HBAD.out (fun hx => hx.1 (by rw [HN.out]; exact hn0)))
              have hn5 : ((n : Int) == 0) = true := by simp [hn0]
              clear hn0
              go_wp2_with fail
              go_ret
              rw [HR.out]
              exact ⟨rfl, by have hBx := HB4.out.trans (hBb.mono (by omega)); exact belC hBx⟩
            · have hn5 : ((n : Int) == 0) = false := by simp; omega
              have hcf : ∀ m, Calls Tryz.prog 81 #[.slice (some ⟨b3, off3 + n, none⟩) (now.length - n) (ic' - n), .func (.func 82) #[] #[.pointer (some ⟨ob, 0, none⟩)]] (wr.drewN m) (Drawn (wr.drewN m) (.bool ((now.drop n).any fun u => decide (u ∈ ls.flatten)))) := by
                intro m
                have := containsFunc_0 S (wr.drewN m) (some ⟨b3, off3 + n, none⟩) (ic' - n) (now.drop n) (fun u => decide (u ∈ ls.flatten)) (.pointer (some ⟨ob, 0, none⟩)) (HIW.out.mod ((Mod.refl none' _).drewN _) (fun _ _ _ => id)) (fun m' u => by rw [World.drewN_drewN]; exact HCL.out _ u)
                rwa [List.length_drop] at this
              cases hany : (now.drop n).any fun u => decide (u ∈ ls.flatten)
              · have HOK : Hid (chainNext old ls.flatten now) := Lib.hid ⟨by rw [HN.out]; exact hn0, by
                  rw [HN.out]
                  intro u hu hm
                  rw [List.any_eq_false] at hany
                  exact hany u hu (by simpa using hm)⟩
                rw [hany] at hcf
                clear hany hn0
                go_wp2_with fail
                refine (hcf _).mono ?_
                clear hcf
                rintro r w5 ⟨rfl, nn, rfl⟩
                go_wp2_with fail
                go_roundg (ls'.length - (k + 1))
                case measure => omega
                case rel => exact ⟨k + 1, rfl, by omega, by go_num, fun j hj => (by
                        by_cases e : j = k
                        · subst e; rw [Hold.out, Hnow.out]; exact HOK.out
                        · exact Hj.out j (by omega)), by exact belC hBb⟩
              · have HR := Lib.hid (HBAD.out (fun hx => by
                  obtain ⟨u, hu, hm⟩ := List.any_eq_true.1 hany
                  exact hx.2 u (by rw [HN.out]; exact hu) (by simpa using hm)))
                rw [hany] at hcf
                clear hany hn0
                go_wp2_with fail
                refine (hcf _).mono ?_
                clear hcf
                rintro r w5 ⟨rfl, nn, rfl⟩
                go_wp2_with fail
                go_ret
                rw [HR.out]
                exact ⟨rfl, by have hBx := HB4.out.trans (hBb.mono (by omega)); exact belC hBx⟩
          · have hcon : ∀ m, Calls Tryz.prog 80 #[.slice (some ⟨b2, off2 + at', none⟩) (old.length - at') (ic - at'), .int .i64 x] (wr.drewN m) (Drawn (wr.drewN m) (.int .i64 (idxI (old.drop at') x))) := by
              intro m
              rw [HC2.out]
              exact index_drawn S _ _ _ _ _ (HD.out.mod ((Mod.refl none' _).drewN _) (fun _ _ _ => id))
            cases hpx : posOf x (old.drop at') with
            | none =>
              have HN := Lib.hid (HH.out.stop hn1 (by rw [Hx.out]; exact hpx))
              have hidx : idxI (old.drop at') x = -1 := by unfold idxI; rw [hpx]
              rw [hidx] at hcon
              clear hpx hidx
              go_wp2_with fail
              go_quiet ((go_at_call 80; exact Calls.quiet_of ((hcon _).mono (fun _ _ h => h))))
              clear hcon
              have hn7 : (n : Int) ≤ now.length := by omega
              have hcq : now.length ≤ ic' := hcp1'.1
              have hcqb : ic' ≤ 9223372036854775807 := hcp1'.2
              have hn6 : (n : Int) ≤ ic' := by omega
              have hn8 : ¬ ic' = n := by omega
              by_cases hn0 : n = 0
              · have HR := Lib.hid (HBAD.out (fun hx => hx.1 (by rw [HN.out]; exact hn0)))
                have hn5 : ((n : Int) == 0) = true := by simp [hn0]
                clear hn0
                go_wp2_with fail
                go_ret
                rw [HR.out]
                exact ⟨rfl, by have hBx := HB4.out.trans (hBb.mono (by omega)); exact belC hBx⟩
              · have hn5 : ((n : Int) == 0) = false := by simp; omega
                have hcf : ∀ m, Calls Tryz.prog 81 #[.slice (some ⟨b3, off3 + n, none⟩) (now.length - n) (ic' - n), .func (.func 82) #[] #[.pointer (some ⟨ob, 0, none⟩)]] (wr.drewN m) (Drawn (wr.drewN m) (.bool ((now.drop n).any fun u => decide (u ∈ ls.flatten)))) := by
                  intro m
                  have := containsFunc_0 S (wr.drewN m) (some ⟨b3, off3 + n, none⟩) (ic' - n) (now.drop n) (fun u => decide (u ∈ ls.flatten)) (.pointer (some ⟨ob, 0, none⟩)) (HIW.out.mod ((Mod.refl none' _).drewN _) (fun _ _ _ => id)) (fun m' u => by rw [World.drewN_drewN]; exact HCL.out _ u)
                  rwa [List.length_drop] at this
                cases hany : (now.drop n).any fun u => decide (u ∈ ls.flatten)
                · have HOK : Hid (chainNext old ls.flatten now) := Lib.hid ⟨by rw [HN.out]; exact hn0, by
                    rw [HN.out]
                    intro u hu hm
                    rw [List.any_eq_false] at hany
                    exact hany u hu (by simpa using hm)⟩
                  rw [hany] at hcf
                  clear hany hn0
                  go_wp2_with fail
                  refine (hcf _).mono ?_
                  clear hcf
                  rintro r w5 ⟨rfl, nn, rfl⟩
                  go_wp2_with fail
                  go_roundg (ls'.length - (k + 1))
                  case measure => omega
                  case rel => exact ⟨k + 1, rfl, by omega, by go_num, fun j hj => (by
                          by_cases e : j = k
                          · subst e; rw [Hold.out, Hnow.out]; exact HOK.out
                          · exact Hj.out j (by omega)), by exact belC hBb⟩
                · have HR := Lib.hid (HBAD.out (fun hx => by
                    obtain ⟨u, hu, hm⟩ := List.any_eq_true.1 hany
                    exact hx.2 u (by rw [HN.out]; exact hu) (by simpa using hm)))
                  rw [hany] at hcf
                  clear hany hn0
                  go_wp2_with fail
                  refine (hcf _).mono ?_
                  clear hcf
                  rintro r w5 ⟨rfl, nn, rfl⟩
                  go_wp2_with fail
                  go_ret
                  rw [HR.out]
                  exact ⟨rfl, by have hBx := HB4.out.trans (hBb.mono (by omega)); exact belC hBx⟩
            | some k2 =>
              have HN := Lib.hid (HH.out.step hn1 (by rw [Hx.out]; exact hpx))
              have hk22 := (posOf_some hpx).1
              simp only [List.length_drop] at hk22
              have hidx : idxI (old.drop at') x = (k2 : Nat) := by unfold idxI; rw [hpx]
              rw [hidx] at hcon
              clear hpx hidx
              go_wp2_with fail
              go_quiet ((go_at_call 80; exact Calls.quiet_of ((hcon _).mono (fun _ _ h => h))))
              clear hcon
              go_wp2_with fail
              go_roundg (now.length - (n + 1))
              case measure => omega
              case rel => exact ⟨n + 1, at' + k2 + 1, rfl, by go_num, by go_num, HN.out, by exact belC hB2⟩
        · have hn2 : n = now.length := by omega
          have HN := Lib.hid (HH.out.out hn2)
          have hn3 : now.length ≤ n := by omega
          have hn4 : (now.length : Int) ≤ n := by omega
          have hn5 : ((n : Int) == 0) = false := by simp; omega
          have hcq : now.length ≤ ic' := hcp1'.1
          have hcqb : ic' ≤ 9223372036854775807 := hcp1'.2
          have hn6 : (n : Int) ≤ ic' := by omega
          have hn7 : (n : Int) ≤ now.length := by omega
          have HOK : Hid (chainNext old ls.flatten now) := Lib.hid ⟨by rw [HN.out]; omega, by rw [HN.out, List.drop_of_length_le hn3]; simp⟩
          have hcf : ∀ A C, Calls Tryz.prog 81 #[.slice A 0 C, .func (.func 82) #[] #[.pointer (some ⟨ob, 0, none⟩)]] wr (Drawn wr (.bool false)) := fun A C =>
            containsFunc_0 S wr A C [] (fun u => decide (u ∈ ls.flatten)) _ (IntsAt.nil _ _ _) HCL.out
          clear hn1 hn2
          by_cases hcap : ic' = n
          all_goals
            go_wp2_with fail
            refine (hcf _ _).mono ?_
            clear hcf
            rintro r w5 ⟨rfl, nn, rfl⟩
            go_wp2_with fail
            go_roundg (ls'.length - (k + 1))
          all_goals first
            | (show _ < _; omega)
            | exact ⟨k + 1, rfl, by omega, by go_num, fun j hj => (by
              by_cases e : j = k
              · subst e; rw [Hold.out, Hnow.out]; exact HOK.out
              · exact Hj.out j (by omega)), by exact belC hBb⟩
    · have hk3 : k = ls'.length := by omega
      have HR : Hid (nextB ⟨e, ls⟩ ⟨e', ls'⟩ = true) := Lib.hid (decide_eq_true ⟨of_decide_eq_true HP.out, of_decide_eq_true HQ.out, He.out, Hlen.out, fun j hj => Hj.out j (by rw [hk3]; exact hj)⟩)
      go_wp2_with fail
      go_ret
      rw [HR.out]
      exact ⟨rfl, HB4.out.trans (hB.mono (by omega))⟩
end Go.Proofs.YtghdhhbpbmhooaaGreat
