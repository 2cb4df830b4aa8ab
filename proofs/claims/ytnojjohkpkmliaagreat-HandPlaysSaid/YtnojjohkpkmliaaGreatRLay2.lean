/- the document's layout: may -/
import Derived.Test.YtnojjohkpkmliaaGreatRLay
namespace Go.Proofs.YtnojjohkpkmliaaGreat
open Go.RowKit Esch

/-- a callee that leaves the world as it is, in a quiet region -/
theorem quiet_eq {P : Program} {f : FuncId} {args : Array Value} {w : World} {n : Nat} {v : Value} (h : Calls P f args (w.drewN n) fun e w' => e = .returned v ∧ w.drewN n = w') :
    Calls P f args (w.drewN n) fun e w'' => e = .returned v ∧ ∃ m, w'' = w.drewN m := h.mono fun _ _ ⟨he, hm⟩ => ⟨he, n, hm.symm⟩
def RMayRel (w : World) (us : List Int) (bad : Int → Bool) (g : Nat) (s5 : Value) (wr : World) : Prop :=
  ∃ k : Nat, g = us.length - k ∧ k ≤ us.length ∧ s5 = .int .i64 k ∧ (∀ j, j < k → bad (us.getD j 0) = false) ∧ Below w.heap.size w wr
set_option maxRecDepth 100000 in
set_option maxHeartbeats 2000000 in
theorem rlayMay_any (S S' : Nat → Prop) (w : World) (b : Nat) (s : LayS) (q : Proj) (a : Option Addr) (c : Nat) (hs : s.ok) (h : RLayAt S w b s) (hl : ListsAt S' w a q.chains) :
    Calls Tryz.prog 78 #[.pointer (some ⟨b, 0, none⟩), .agg #[.int .i64 q.epoch, .slice a q.chains.length c]] w fun e w' => e = .returned (.bool (mayB s q)) ∧ Below w.heap.size w w' := by
  obtain ⟨pa, pc, h1, hp⟩ := h.c1
  obtain ⟨va, vc, h2, hv, -⟩ := h.c2
  have h0 := h.c0
  have hb := h.lt
  obtain ⟨W0, hW0, hB0, hz0, c0, c1⟩ := oneBox w 24 (.int .i64 q.epoch) (.slice a q.chains.length c)
  have HW0 := Lib.hid hW0
  have hp0 := (hp.sub (T := fun k => k < w.heap.size) (fun k hk _ => hk)).mod (Mod.of_below (F := none') hB0) (fun _ _ _ => id)
  have hl0 := (hl.sub (T := fun k => k < w.heap.size) (fun k hk _ => hk)).mod (Mod.of_below (F := none') hB0) (fun _ _ _ => id)
  have hv0 := (hv.sub (T := fun k => k < w.heap.size) (fun k hk _ => hk)).mod (Mod.of_below (F := none') hB0) (fun _ _ _ => id)
  have hnx := rnext_any _ W0.drew s.p.epoch q.epoch pa a pc c s.p.chains q.chains (hp0.mod (F := none') ((Mod.refl none' _).drew) (fun _ _ _ => id)) (hl0.mod (F := none') ((Mod.refl none' _).drew) (fun _ _ _ => id))
  replace h0 := below_at hB0 h0 hb
  replace h1 := below_at hB0 h1 hb
  replace h2 := below_at hB0 h2 hb
  have h0' : W0.drew.cell? ⟨b, 0, none⟩ = _ := h0
  have h1' : W0.drew.cell? ⟨b, 1, none⟩ = _ := h1
  have c0' : W0.drew.cell? ⟨w.heap.size, 0, none⟩ = _ := c0
  have c1' : W0.drew.cell? ⟨w.heap.size, 1, none⟩ = _ := c1
  obtain ⟨qb, hqb⟩ : ∃ qb, qb = w.heap.size := ⟨_, rfl⟩
  have hq1 : qb < W0.heap.size := by omega
  have hbW : b < W0.heap.size := by omega
  have Hp := Lib.hid hp0
  have Hl := Lib.hid hl0
  have Hv := Lib.hid hv0
  clear hW0 hp hl hv hp0 hl0 hv0 h
  go_enter Tryz.func78, Tryz.ntmps78
  go_wp2_with fail
  rw [← HW0.out]
  rw [← hqb] at c0 c1 c0' c1' ⊢
  clear hqb
  go_region_held3 (fun w' => w'.cell? ⟨b, 0, none⟩ = some (.int .i64 s.p.epoch) ∧ w'.cell? ⟨b, 1, none⟩ = some (.slice pa s.p.chains.length pc) ∧ w'.cell? ⟨qb, 0, none⟩ = some (.int .i64 q.epoch) ∧ w'.cell? ⟨qb, 1, none⟩ = some (.slice a q.chains.length c))
    (first
      | with_reducible exact ⟨h0', h1', c0', c1'⟩
      | with_reducible exact ⟨z0, z1, z2, z3⟩)
    (first
      | (go_at_call 94; (with_reducible refine hnx.mono ?_); rintro e w2 ⟨rfl, hB2'⟩
         have hB2 : Below W0.heap.size W0 w2 := below_drew hB2'
         clear hB2'
         have z0 := below_at hB2 h0 hbW
         have z1 := below_at hB2 h1 hbW
         have z2 := below_at hB2 c0 hq1
         have z3 := below_at hB2 c1 hq1))
  clear h0' h1' c0' c1'
  have hBw2 := hB0.trans (hB2.mono (by omega))
  replace h2 := below_at hB2 h2 hbW
  have hz2 := hB2.size
  cases hnb : nextB s.p q
  · go_wp2_with fail
    go_ret
    refine ⟨?_, hBw2⟩
    rw [show mayB s q = false from by unfold mayB; rw [hnb]; rfl]
    rfl
  · have hqg : q.good := (of_decide_eq_true hnb : s.p.next q).2.1
    have hun := runits_any _ w2 s.p.epoch pa pc s.p.chains (good_small hs.good) (Hp.out.mod (F := none') (Mod.of_below hB2) (fun _ _ _ => id))
    have Hnb := Lib.hid hnb
    clear hnb
    go_wp2_with fail
    refine hun.mono ?_
    clear hun
    rintro e w3 ⟨na, nc, rfl, hn3, hB3, -⟩
    have hz3 := hB3.size
    have hBw3 := hBw2.trans (hB3.mono hBw2.size)
    replace h2 := below_at hB3 h2 (by omega)
    have z2 := below_at hB3 z2 (by omega)
    have z3 := below_at hB3 z3 (by omega)
    have hun := runits_any _ w3 q.epoch a c q.chains (good_small hqg) (Hl.out.mod (F := none') ((Mod.of_below hB2).trans (Mod.of_below hB3)) (fun _ _ _ => id))
    go_wp2_with fail
    refine hun.mono ?_
    clear hun
    rintro e w4 ⟨ua, uc, rfl, hu4, hB4, -⟩
    have hz4 := hB4.size
    have hBw4 := hBw3.trans (hB4.mono hBw3.size)
    replace h2 := below_at hB4 h2 (by omega)
    have hv4 := Hv.out.mod (F := none') (((Mod.of_below hB2).trans (Mod.of_below hB3)).trans (Mod.of_below hB4)) (fun _ _ _ => id)
    have hn4 := hn3.mod (F := none') (Mod.of_below hB4) (fun _ _ _ => id)
    have hmay : mayB s q = !((unitsOf q.chains.flatten).any fun u => decide (u ∈ s.used) && !decide (u ∈ s.p.units)) := by
      unfold mayB; rw [Hnb.out]; rfl
    have hmem : ∀ u, (u ∈ unitsOf s.p.chains.flatten) = (u ∈ s.p.units) := fun u => propext mem_unitsOf
    generalize unitsOf s.p.chains.flatten = ns at hn4 hmem ⊢
    generalize unitsOf q.chains.flatten = us at hu4 hmay ⊢
    have Hu4 := Lib.hid hu4
    have Hn4 := Lib.hid hn4
    have Hv4 := Lib.hid hv4
    have Hmay := Lib.hid hmay
    have Hmem := Lib.hid hmem
    clear hu4 hn3 hn4 hv4 hmay hmem hB2 hB3 hB4
    go_wp2_with fail
    go_loopg [7] us.length (fun g s5 wr => RMayRel w4 us (fun u => decide (u ∈ s.used) && !decide (u ∈ s.p.units)) g s5 wr)
    case atStart => exact ⟨0, rfl, Nat.zero_le _, rfl, fun j hj => absurd hj (by omega), Below.refl _ _⟩
    case round =>
      obtain ⟨k, rfl, hk, rfl, hbad, hBt⟩ := hrel
      by_cases hlt : k < us.length
      · obtain ⟨lb, lo, rfl, -, hlb, hlc⟩ := Hu4.out.2 (by omega)
        have e0 : _ = some (Value.int .i64 (us.getD k 0)) := below_at hBt (hlc k hlt) hlb
        have t2 := below_at hBt h2 (by omega)
        obtain ⟨x, hx⟩ : ∃ x, x = us.getD k 0 := ⟨_, rfl⟩
        rw [← hx] at e0
        have Hx := Lib.hid hx
        have hn5 := Hn4.out.mod (F := none') (Mod.of_below hBt) (fun _ _ _ => id)
        have hv5 := Hv4.out.mod (F := none') (Mod.of_below hBt) (fun _ _ _ => id)
        have hc1 := fun m => has_any _ (wr.drewN m) na nc ns x (hn5.mod (F := none') ((Mod.refl none' _).drewN _) (fun _ _ _ => id))
        have hc2 := fun m => has_any _ (wr.drewN m) va vc s.used x (hv5.mod (F := none') ((Mod.refl none' _).drewN _) (fun _ _ _ => id))
        have Hbad := Lib.hid hbad
        have hul := Hu4.out.1
        clear hx hn5 hv5 hbad
        by_cases hin : x ∈ ns
        · rw [decide_eq_true hin] at hc1
          have Hin := Lib.hid hin
          clear hin hc2
          go_wp2_with fail
          go_quiet ((go_at_call 95; with_reducible exact quiet_eq (hc1 _)))
          go_wp2_with fail
          go_roundg (us.length - (k + 1))
          case measure => omega
          case rel =>
            refine ⟨k + 1, rfl, by omega, by go_num, fun j hj => ?_, below_drewN hBt _⟩
            rcases Nat.lt_or_ge j k with hjk | hjk
            · exact Hbad.out j hjk
            · obtain rfl : j = k := Nat.le_antisymm (Nat.le_of_lt_succ hj) hjk
              rw [← Hx.out]
              have := (Hmem.out x).mp Hin.out
              simp [this]
        · rw [decide_eq_false hin] at hc1
          have Hin := Lib.hid hin
          clear hin
          by_cases hus : x ∈ s.used
          · rw [decide_eq_true hus] at hc2
            have Hus := Lib.hid hus
            clear hus
            go_wp2_with fail
            go_quiet (first
              | (go_at_call 95; with_reducible exact quiet_eq (hc1 _))
              | (go_at_call 95; with_reducible exact quiet_eq (hc2 _)))
            go_wp2_with fail
            go_ret
            refine ⟨?_, hBw4.trans ((below_drewN hBt _).mono hBw4.size)⟩
            rw [Hmay.out, any_at (p := fun u => decide (u ∈ s.used) && !decide (u ∈ s.p.units)) hlt (by
              rw [← Hx.out]
              have h2 : x ∉ s.p.units := fun h => Hin.out ((Hmem.out x).mpr h)
              simp [Hus.out, h2])]
            rfl
          · rw [decide_eq_false hus] at hc2
            have Hus := Lib.hid hus
            clear hus
            go_wp2_with fail
            go_quiet (first
              | (go_at_call 95; with_reducible exact quiet_eq (hc1 _))
              | (go_at_call 95; with_reducible exact quiet_eq (hc2 _)))
            go_wp2_with fail
            go_roundg (us.length - (k + 1))
            case measure => omega
            case rel =>
              refine ⟨k + 1, rfl, by omega, by go_num, fun j hj => ?_, below_drewN hBt _⟩
              rcases Nat.lt_or_ge j k with hjk | hjk
              · exact Hbad.out j hjk
              · obtain rfl : j = k := Nat.le_antisymm (Nat.le_of_lt_succ hj) hjk
                rw [← Hx.out]
                simp [Hus.out]
      · have hge : us.length ≤ k := by omega
        go_wp2_with fail
        go_ret
        refine ⟨?_, hBw4.trans (hBt.mono hBw4.size)⟩
        rw [Hmay.out, any_out (p := fun u => decide (u ∈ s.used) && !decide (u ∈ s.p.units)) (fun j hj => hbad j (by omega))]
        rfl
end Go.Proofs.YtnojjohkpkmliaaGreat
