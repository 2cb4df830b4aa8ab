import Derived.Test.YtpkdpmkiplopmaaLayout3
/- the layout: which may count next; a new one -/
namespace Go.Proofs.Ytpkdpmkiplopmaa
open Go.RowKit Esch

theorem unit_look {w : World} {mb T : Nat} {us : List Int} (h : MapU w mb T us) (u : Int) : ∃ c : Int, decide (0 < c) = decide (u ∈ us) ∧
    (Instr.lookup 108 (.map (some mb)) (.agg #[.int .i64 u]) false).run Try.prog w = .ok (.int .i64 c) w := by
  obtain ⟨m, es, clock, hm, hg⟩ := h
  have l1 := hm.look keyUnitL Try.underlying108 zeroInt u false
  have hv : ((Esch.get m u).map κint).getD (.int .i64 0) = .int .i64 ((Esch.get m u).getD 0) := by cases Esch.get m u <;> rfl
  simp only [Bool.false_eq_true, if_false, hv] at l1
  refine ⟨(Esch.get m u).getD 0, ?_, l1⟩
  have h2 := (hg u).2
  apply decide_eq_decide.2
  rw [← h2]
  cases hgu : Esch.get m u with
  | none => simp
  | some c => have := ((hg u).1 c hgu).1; simp; omega

set_option maxHeartbeats 1000000 in
theorem may1_any (S : Nat → Prop) (w : World) (lb nb b mb T : Nat) (used now : List Int) (na : Option Addr) (nc : Nat) (u : Int) (h1 : w.cell? ⟨lb, 0, none⟩ = some (.pointer (some ⟨b, 0, none⟩))) (h2 : w.cell? ⟨nb, 0, none⟩ = some (.slice na now.length nc))
    (h3 : w.cell? ⟨b, 2, none⟩ = some (.map (some mb))) (hm : MapU w mb T used) (hn : IntsAt S w na now) :
    Calls Try.prog 106 #[.int .i64 u, .pointer (some ⟨lb, 0, none⟩), .pointer (some ⟨nb, 0, none⟩)] w (Drawn w (.bool (decide (u ∈ used) && !decide (u ∈ now)))) := by
  obtain ⟨c, hc, hl⟩ := unit_look hm u
  have hcon := contains_any S w na nc now u hn
  rw [← hc]
  clear hc hm hn
  by_cases h0 : 0 < c
  · go_enter Try.func106, Try.ntmps106
    go_wp2_with fail
    refine hcon.mono ?_
    clear hcon
    rintro e w1 ⟨rfl, rfl⟩
    go_wp2_with fail
    go_ret
    refine ⟨?_, 0, rfl⟩
    rw [decide_eq_true h0, Bool.true_and]
    rfl
  · have h0' : c ≤ 0 := by omega
    go_enter Try.func106, Try.ntmps106
    go_wp2_with fail
    go_ret
    refine ⟨?_, 0, rfl⟩
    rw [decide_eq_false (by omega : ¬ 0 < c), Bool.false_and]
    rfl

theorem mayBox (w : World) (T1 T2 : TypeId) (x y0 y1 : Value) : ∃ W0, W0 = (w.alloc (.cells #[x] T1)).alloc (.cells #[y0, y1] T2) ∧ Below w.heap.size w W0 ∧ W0.heap.size = w.heap.size + 2 ∧
    W0.cell? ⟨w.heap.size, 0, none⟩ = some x ∧ W0.cell? ⟨w.heap.size + 1, 0, none⟩ = some y0 ∧ W0.cell? ⟨w.heap.size + 1, 1, none⟩ = some y1 :=
  ⟨_, rfl, by (repeat (first | with_reducible exact (Below.refl _ _) | with_reducible refine Below.drew ?_ | with_reducible refine Esch.below_drewN ?_ _ | with_reducible refine Below.setCell ?_ (by first | omega | (simp; done) | (simp; omega)) _ | with_reducible refine Below.alloc ?_ (by first | omega | (simp; done) | (simp; omega)) _)), by simp, by go_simp, by go_simp, by go_simp⟩

set_option maxRecDepth 100000 in
set_option maxHeartbeats 4000000 in
theorem layMay_any (S S' : Nat → Prop) (w : World) (b mb T : Nat) (s : LayS) (q : Proj) (a : Option Addr) (c : Nat) (hs : s.ok) (h : LayAt S w b mb T s) (hl : ListsAt S' w a q.chains) :
    Calls Try.prog 85 #[.pointer (some ⟨b, 0, none⟩), .agg #[.int .i64 q.epoch, .slice a q.chains.length c]] w (BoolBelow w (mayB s q)) := by
  obtain ⟨W0, hW0, hB0, hz0, l0, p0, p1⟩ := mayBox w 55 24 (.pointer (some ⟨b, 0, none⟩)) (.int .i64 q.epoch) (.slice a q.chains.length c)
  have HW0 := Lib.hid hW0
  clear hW0
  have hL0 := h.below hB0
  have hbw := h.lt
  have hls0 := hl.mod (Mod.of_below (F := none') hB0) (fun _ _ _ => id)
  obtain ⟨pa, pc, c1, hlp⟩ := hL0.c1
  have c0 := hL0.c0
  have c2 := hL0.c2
  have hbz : b < W0.heap.size := by omega
  have HL0 := Lib.hid hL0
  have Hq := Lib.hid hls0
  have Hp := Lib.hid hlp
  have hnx := next_any (fun _ => True) W0.drew s.p.epoch q.epoch pa a pc c s.p.chains q.chains (hlp.sub (fun _ _ _ => trivial)) (hls0.sub (fun _ _ _ => trivial))
  have Hs := Lib.hid hs
  clear h hl hL0 hls0 hlp hs
  go_enter Try.func85, Try.ntmps85
  go_wp2_with fail
  rw [← HW0.out]
  obtain ⟨lb, hlb⟩ : ∃ lb, lb = w.heap.size := ⟨_, rfl⟩
  rw [← hlb] at l0 p0 p1 ⊢
  have hlz : lb + 1 < W0.heap.size := by omega
  have hlz1 : lb < W0.heap.size := by omega
  have hlw : w.heap.size ≤ lb := by omega
  clear hlb
  cases hn : nextB s.p q with
  | false =>
    have HR : Hid (mayB s q = false) := Lib.hid (by unfold mayB; rw [hn]; rfl)
    rw [hn] at hnx
    clear hn
    go_region_held3 (fun w' => w'.cell? ⟨lb, 0, none⟩ = some (.pointer (some ⟨b, 0, none⟩)) ∧ w'.cell? ⟨b, 0, none⟩ = some (.int .i64 s.p.epoch) ∧ w'.cell? ⟨b, 1, none⟩ = some (.slice pa s.p.chains.length pc) ∧ w'.cell? ⟨lb + 1, 0, none⟩ = some (.int .i64 q.epoch) ∧ w'.cell? ⟨lb + 1, 1, none⟩ = some (.slice a q.chains.length c))
      (first
        | exact ⟨l0, c0, c1, p0, p1⟩
        | exact ⟨below_at hB1 l0 hlz1, below_at hB1 c0 hbz, below_at hB1 c1 hbz, below_at hB1 p0 hlz, below_at hB1 p1 hlz⟩)
      (first
        | (go_at_call 12; (with_reducible refine hnx.mono ?_); rintro e w1 ⟨rfl, hB1⟩))
    have hB1' : Below W0.heap.size W0 w1 := ⟨hB1.os, hB1.tape, hB1.output, hB1.size, hB1.block⟩
    clear hnx hB1
    have hB1 := hB1'
    clear hB1'
    have hBw1 := hB0.trans (hB1.mono (by omega))
    have hz1 := hB1.size
    replace l0 := below_at hB1 l0 hlz1
    replace c0 := below_at hB1 c0 hbz
    replace c1 := below_at hB1 c1 hbz
    replace c2 := below_at hB1 c2 hbz
    replace p0 := below_at hB1 p0 hlz
    replace p1 := below_at hB1 p1 hlz
    go_wp2_with fail
    go_ret
    rw [HR.out]
    exact ⟨rfl, hBw1⟩
  | true =>
    have hgd := of_decide_eq_true hn
    have hgp := hgd.1
    have hgq := hgd.2.1
    have HR : Hid (mayB s q = !((unitsOf q.units).any fun u => decide (u ∈ s.used) && !decide (u ∈ s.p.units))) := Lib.hid (by unfold mayB; rw [hn]; rfl)
    rw [hn] at hnx
    clear hn hgd
    go_region_held3 (fun w' => w'.cell? ⟨lb, 0, none⟩ = some (.pointer (some ⟨b, 0, none⟩)) ∧ w'.cell? ⟨b, 0, none⟩ = some (.int .i64 s.p.epoch) ∧ w'.cell? ⟨b, 1, none⟩ = some (.slice pa s.p.chains.length pc) ∧ w'.cell? ⟨lb + 1, 0, none⟩ = some (.int .i64 q.epoch) ∧ w'.cell? ⟨lb + 1, 1, none⟩ = some (.slice a q.chains.length c))
      (first
        | exact ⟨l0, c0, c1, p0, p1⟩
        | exact ⟨below_at hB1 l0 hlz1, below_at hB1 c0 hbz, below_at hB1 c1 hbz, below_at hB1 p0 hlz, below_at hB1 p1 hlz⟩)
      (first
        | (go_at_call 12; (with_reducible refine hnx.mono ?_); rintro e w1 ⟨rfl, hB1⟩))
    have hB1' : Below W0.heap.size W0 w1 := ⟨hB1.os, hB1.tape, hB1.output, hB1.size, hB1.block⟩
    clear hnx hB1
    have hB1 := hB1'
    clear hB1'
    have hBw1 := hB0.trans (hB1.mono (by omega))
    have hz1 := hB1.size
    replace l0 := below_at hB1 l0 hlz1
    replace c0 := below_at hB1 c0 hbz
    replace c1 := below_at hB1 c1 hbz
    replace c2 := below_at hB1 c2 hbz
    replace p0 := below_at hB1 p0 hlz
    replace p1 := below_at hB1 p1 hlz
    have hu1 := units_any (fun _ => True) w1 s.p.epoch pa pc s.p.chains (good_small hgp) (good_units hgp) ((Hp.out.sub (fun _ _ _ => trivial)).mod (Mod.of_below (F := none') hB1) (fun _ _ _ => id))
    go_wp2_with fail
    refine hu1.mono ?_
    clear hu1
    rintro r w2 ⟨ua, uc, rfl, hU, hB2, -⟩
    have hz2 := hB2.size
    have hB02 := hB1.trans (hB2.mono (by omega))
    replace l0 := below_at hB2 l0 (by omega)
    replace p0 := below_at hB2 p0 (by omega)
    replace p1 := below_at hB2 p1 (by omega)
    have hlz2 : lb + 1 < w2.heap.size := by omega
    have hlz3 : lb < w2.heap.size := by omega
    replace c2 := below_at hB2 c2 (by omega)
    have hbz2 : b < w2.heap.size := by omega
    have HUN : Hid (unitsOf s.p.units = unitsOf s.p.chains.flatten) := Lib.hid rfl
    have HUQ : Hid (unitsOf q.units = unitsOf q.chains.flatten) := Lib.hid rfl
    have HMM : Hid (∀ x, decide (x ∈ unitsOf s.p.chains.flatten) = decide (x ∈ s.p.units)) := Lib.hid (fun x => decide_eq_decide.2 mem_unitsOf)
    have HU := Lib.hid hU
    clear hU
    generalize unitsOf s.p.chains.flatten = now at *
    go_wp2_with fail
    have nb0 : (w2.alloc (.cells #[.slice ua now.length uc] 40)).cell? ⟨w2.heap.size, 0, none⟩ = some (.slice ua now.length uc) := by go_simp
    have l3 : (w2.alloc (.cells #[.slice ua now.length uc] 40)).cell? ⟨lb, 0, none⟩ = some (.pointer (some ⟨b, 0, none⟩)) := by go_simp
    have c3 : (w2.alloc (.cells #[.slice ua now.length uc] 40)).cell? ⟨b, 2, none⟩ = some (.map (some mb)) := by go_simp
    have hB03 := hB02.alloc (by omega) (.cells #[.slice ua now.length uc] 40)
    have hU3 := HU.out.mod ((Mod.refl none' w2).alloc (.cells #[.slice ua now.length uc] 40)) (fun _ _ _ => id)
    have hz3 : (w2.alloc (.cells #[.slice ua now.length uc] 40)).heap.size = w2.heap.size + 1 := by simp
    generalize w2.alloc (.cells #[.slice ua now.length uc] 40) = W3 at *
    obtain ⟨nb, hnb⟩ : ∃ nb, nb = w2.heap.size := ⟨_, rfl⟩
    rw [← hnb] at nb0 ⊢
    have hnz : nb < W3.heap.size := by omega
    have hlz4 : lb < W3.heap.size := by omega
    have hbz4 : b < W3.heap.size := by omega
    clear hnb
    have hu2 := units_any (fun _ => True) W3 q.epoch a c q.chains (good_small hgq) (good_units hgq) ((Hq.out.sub (fun _ _ _ => trivial)).mod (Mod.of_below (F := none') hB03) (fun _ _ _ => id))
    refine hu2.mono ?_
    clear hu2
    rintro r w4 ⟨va, vc, rfl, hV, hB4, -⟩
    have hB04 := hB03.trans (hB4.mono (by omega))
    have hBw4 := hB0.trans (hB04.mono (by omega))
    have l4 := below_at hB4 l3 hlz4
    have nb4 := below_at hB4 nb0 hnz
    have c4 := below_at hB4 c3 hbz4
    have hU4 := hU3.mod (Mod.of_below (F := none') hB4) (fun _ _ _ => id)
    have hMU := (HL0.out.below hB04).map
    have hcf := containsFunc_1 _ w4 va vc (unitsOf q.chains.flatten) (fun u => decide (u ∈ s.used) && !decide (u ∈ now)) (.pointer (some ⟨lb, 0, none⟩)) (.pointer (some ⟨nb, 0, none⟩)) hV (fun m u =>
      may1_any _ (w4.drewN m) lb nb b mb T s.used now ua uc u l4 nb4 c4 (hMU.mod (F := none') ((Mod.refl _ _).drewN _) id) (hU4.mod (F := none') ((Mod.refl _ _).drewN _) (fun _ _ _ => id)))
    clear hV hU4 hMU l4 nb4 c4 hU3 nb0 l3 c3
    go_wp2_with fail
    refine hcf.mono ?_
    clear hcf
    rintro r w5 ⟨rfl, nn, rfl⟩
    go_wp2_with fail
    go_ret
    refine ⟨?_, by (repeat (first | with_reducible exact hBw4 | with_reducible refine Below.drew ?_ | with_reducible refine Esch.below_drewN ?_ _ | with_reducible refine Below.setCell ?_ (by first | omega | (simp; done) | (simp; omega)) _ | with_reducible refine Below.alloc ?_ (by first | omega | (simp; done) | (simp; omega)) _))⟩
    rw [HR.out, HUQ.out]
    simp only [← HMM.out]
    rfl
end Go.Proofs.Ytpkdpmkiplopmaa
