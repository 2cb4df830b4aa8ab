import Derived.Test.YtchidgpaejkaiaaNexts
import Derived.Test.YtchidgpaejkaiaaHeadsM
/- ProjHeads: the walk -/
namespace Go.Proofs.Ytchidgpaejkaiaa
open Go.RowKit Esch

def HRel (w2 : World) (n g : Nat) (s : Value) (wr : World) : Prop := ∃ k : Nat, g = n - k ∧ k ≤ n ∧ s = .int .i64 k ∧ Below w2.heap.size w2 wr
set_option maxRecDepth 100000 in
set_option maxHeartbeats 2000000 in
theorem heads_walk (pe qe : Int) (pa qa : Option Addr) (pc qc : Nat) (ls ms : List (List Int)) (w : World) (hp : ListsAt (Old w) w pa ls) (hq : ListsAt (Old w) w qa ms) :
    Calls Try.prog 9 #[.agg #[.int .i64 pe, .slice pa ls.length pc], .agg #[.int .i64 qe, .slice qa ms.length qc]] w fun e w' => e = .returned (.bool true) ∧ Below w.heap.size w w' := by
  obtain ⟨W0, hW0, hB0, hz0, p0, p1, q0, q1⟩ := twoBox w 24 (.int .i64 pe) (.slice pa ls.length pc) (.int .i64 qe) (.slice qa ms.length qc)
  have HW0 := Lib.hid hW0
  have Hp := Lib.hid hp
  have Hq := Lib.hid hq
  have hl1 := largeProj_any _ W0 pe pa pc ls (old_below hp hB0)
  clear hW0 hp hq
  go_enter Try.func9, Try.ntmps9
  go_wp2_with fail
  rw [← HW0.out]
  refine hl1.mono ?_
  clear hl1
  rintro r w1 ⟨rfl, hB1⟩
  have Hsm : Hid (largeProj ls = false → Small ls) := Lib.hid small_ofL
  generalize largeProj ls = lg at Hsm ⊢
  have hz1 := hB1.size
  have hBw1 := hB0.trans (hB1.mono (by omega))
  replace p0 := below_at hB1 p0 (by omega)
  replace p1 := below_at hB1 p1 (by omega)
  replace q0 := below_at hB1 q0 (by omega)
  replace q1 := below_at hB1 q1 (by omega)
  cases lg
  · have hsm := Hsm.out rfl
    have HS := Lib.hid hsm
    have hl2 := largeProj_any _ w1 qe qa qc ms (old_below Hq.out hBw1)
    clear hsm Hsm hB1
    go_wp2_with fail
    refine hl2.mono ?_
    clear hl2
    rintro r w2 ⟨rfl, hB2⟩
    have Hsm : Hid (largeProj ms = false → Small ms) := Lib.hid small_ofL
    generalize largeProj ms = lg at Hsm ⊢
    have hz2 := hB2.size
    have hBw2 := hBw1.trans (hB2.mono (by omega))
    replace p0 := below_at hB2 p0 (by omega)
    replace p1 := below_at hB2 p1 (by omega)
    replace q0 := below_at hB2 q0 (by omega)
    replace q1 := below_at hB2 q1 (by omega)
    cases lg
    · have HT := Lib.hid (Hsm.out rfl)
      clear Hsm hB2
      go_wp2_with fail
      have KEEP : ∀ W', Below w2.heap.size w2 W' → W'.cell? ⟨w.heap.size, 0, none⟩ = some (.int .i64 pe) ∧ W'.cell? ⟨w.heap.size, 1, none⟩ = some (.slice pa ls.length pc) ∧ W'.cell? ⟨w.heap.size + 1, 0, none⟩ = some (.int .i64 qe) ∧ W'.cell? ⟨w.heap.size + 1, 1, none⟩ = some (.slice qa ms.length qc) :=
        fun W' h => ⟨below_at h p0 (by omega), below_at h p1 (by omega), below_at h q0 (by omega), below_at h q1 (by omega)⟩
      have HBw2 := Lib.hid hBw2
      have HN : Hid (nextB ⟨pe, ls⟩ ⟨qe, ms⟩ = nextB ⟨pe, ls⟩ ⟨qe, ms⟩) := Lib.hid rfl
      have hDW : Below w2.heap.size w2 w2.drew := Below.drew (Below.refl _ _)
      have hzD := hDW.size
      have hKD := KEEP _ hDW
      have hc1 := copyK_any _ w2.drew pe pa pc ls HS.out (old_below Hp.out (HBw2.out.trans (hDW.mono (by omega))))
      go_region_held3 (fun W' => W'.cell? ⟨w.heap.size, 0, none⟩ = some (.int .i64 pe) ∧ W'.cell? ⟨w.heap.size, 1, none⟩ = some (.slice pa ls.length pc) ∧ W'.cell? ⟨w.heap.size + 1, 0, none⟩ = some (.int .i64 qe) ∧ W'.cell? ⟨w.heap.size + 1, 1, none⟩ = some (.slice qa ms.length qc))
        (first
          | with_reducible exact hKD
          | with_reducible exact hKx
          | with_reducible exact hKy
          | with_reducible exact hKz
          | with_reducible exact hKw)
        (first
          | (go_at_call 15; (with_reducible refine hc1.mono ?_); rintro e wx ⟨ax, cx, rfl, hlx, hBx'⟩
             have hBx : Below w2.heap.size w2 wx := hDW.trans (hBx'.mono hzD)
             have hKx := KEEP _ hBx
             have hzx := hBx.size
             have hc2 := copyK_any _ wx qe qa qc ms HT.out (old_below Hq.out (HBw2.out.trans (hBx.mono (by omega))))
             have Hlx := Lib.hid hlx
             clear hc1 hlx hBx')
          | (go_at_call 15; (with_reducible refine hc2.mono ?_); rintro e wy ⟨ay, cy, rfl, hly, hBy'⟩
             have hBy : Below w2.heap.size w2 wy := hBx.trans (hBy'.mono hzx)
             have hKy := KEEP _ hBy
             have hzy := hBy.size
             have hn1 := next_any (fun _ => True) wy pe qe ax ay cx cy ls ms ((Hlx.out.mod (F := none') (Mod.of_below hBy') (fun _ _ _ => id)).sub (fun _ _ _ => trivial)) (hly.sub (fun _ _ _ => trivial))
             skip
             clear hc2 hly hBy' Hlx)
          | (go_at_call 31; (with_reducible refine hn1.mono ?_); rintro e wz ⟨rfl, hBz'⟩
             have hBz : Below w2.heap.size w2 wz := hBy.trans (hBz'.mono hzy)
             have hKz := KEEP _ hBz
             have hzz := hBz.size
             have hwk := wakes7_any wz
             clear hn1 hBz')
          | (go_at_call 30; (with_reducible refine hwk.mono ?_); rintro e ww ⟨rfl, hBw'⟩
             have hBw : Below w2.heap.size w2 ww := hBz.trans (hBw'.mono hzz)
             have hKw := KEEP _ hBw
             clear hwk hBw'))
      by_cases hnx : (Proj.mk pe ls).next ⟨qe, ms⟩
      · have hnt := next_tells hnx
        have hbk := next_back hnx
        rw [show nextB ⟨pe, ls⟩ ⟨qe, ms⟩ = true from decide_eq_true hnx]
        clear hnx
        have Hnt := Lib.hid hnt
        have Hlen := Lib.hid hnt.len
        clear hnt
        have Hp2 : ∀ W', Below w2.heap.size w2 W' → ListsAt (Old w) W' pa ls := fun W' h => old_below Hp.out (HBw2.out.trans (h.mono (by omega)))
        have Hq2 : ∀ W', Below w2.heap.size w2 W' → ListsAt (Old w) W' qa ms := fun W' h => old_below Hq.out (HBw2.out.trans (h.mono (by omega)))
        have hml : ms.length ≤ 50 := HT.out.1
        have hll : ls.length ≤ 50 := HS.out.1
        have Hbk := Lib.hid hbk
        clear hbk hKx hKy hKD hDW
        go_wp2_with fail
        go_loopg [5] ms.length (fun g s wr => HRel w2 ms.length g s wr)
        case atStart => exact ⟨0, rfl, Nat.zero_le _, rfl, hBz⟩
        case round =>
          obtain ⟨k, rfl, hk, rfl, hBr⟩ := hrel
          have hzr := hBr.size
          obtain ⟨p0, p1, q0, q1⟩ := KEEP _ hBr
          by_cases hlt : k < ms.length
          · have hlk : k < ls.length := by have := Hlen.out; omega
            obtain ⟨lb, lo, hpa, -, hlb, hlc⟩ := (Hp2 wr hBr).2 (by omega)
            obtain ⟨mb, mo, hqa, -, hmb, hmc⟩ := (Hq2 wr hBr).2 (by omega)
            obtain ⟨la, lc, l1, l2, -⟩ := hlc k (by omega)
            obtain ⟨ma, mc, m1, m2, -⟩ := hmc k hlt
            subst hpa
            subst hqa
            have hpos := Hnt.out.pos k hlt
            have hhd := Hnt.out.head k hlt
            have hap := fun i j => Hnt.out.apart k i j hlt
            have hm50 := HT.out.2 k hlt
            obtain ⟨xb, xo, hma, -, hxb, hxc⟩ := m2.2 hpos
            subst hma
            have x0 := hxc 0 hpos
            have Hxc := Lib.hid hxc
            generalize ms.getD k [] = m at m1 m2 hpos hhd hap x0 Hxc hm50
            generalize ls.getD k [] = l at l1 l2 hhd
            have Hhd := Lib.hid hhd
            have hxn : decide (m.getD 0 0 ∈ l) = true := decide_eq_true hhd
            have hhas := has_any (Old w) wr.drew la lc l (m.getD 0 0) l2
            rw [hxn] at hhas
            clear hlc hmc hxc m2 hhd hxn
            rw [Nat.add_zero] at x0
            generalize m.getD 0 0 = xv at x0 hhas
            have hKr : World.cell? wr.drew ⟨w.heap.size, 1, none⟩ = some (.slice (some ⟨lb, lo, none⟩) ls.length pc) ∧ World.cell? wr.drew ⟨w.heap.size + 1, 1, none⟩ = some (.slice (some ⟨mb, mo, none⟩) ms.length qc) ∧ World.cell? wr.drew ⟨lb, lo + k, none⟩ = some (.slice la l.length lc) ∧ World.cell? wr.drew ⟨mb, mo + k, none⟩ = some (.slice (some ⟨xb, xo, none⟩) m.length mc) ∧ World.cell? wr.drew ⟨xb, xo, none⟩ = some (.int .i64 xv) := ⟨p1, q1, l1, m1, x0⟩
            have hk1 : (0 : Int) ≤ k := by omega
            have hk2 : (k : Int) < ms.length := by omega
            have hk3 : (k : Int) < ls.length := by omega
            have hm1 : (0 : Int) < m.length := by omega
            go_wp2_with fail
            go_region_held3 (fun W' => W'.cell? ⟨w.heap.size, 1, none⟩ = some (.slice (some ⟨lb, lo, none⟩) ls.length pc) ∧ W'.cell? ⟨w.heap.size + 1, 1, none⟩ = some (.slice (some ⟨mb, mo, none⟩) ms.length qc) ∧ W'.cell? ⟨lb, lo + k, none⟩ = some (.slice la l.length lc) ∧ W'.cell? ⟨mb, mo + k, none⟩ = some (.slice (some ⟨xb, xo, none⟩) m.length mc) ∧ W'.cell? ⟨xb, xo, none⟩ = some (.int .i64 xv))
              (with_reducible exact hKr)
              (first | (go_at_call 28; (with_reducible refine hhas.mono ?_); rintro e w9 ⟨rfl, rfl⟩))
            have hBd : Below w2.heap.size w2 wr.drew := hBr.drew
            have hxc' := fun j hj => show World.cell? wr.drew _ = _ from Hxc.out j hj
            obtain ⟨wo, hwo⟩ : ∃ wo, wo = wr.drew := ⟨_, rfl⟩
            rw [← hwo] at hKr hBd hxc' ⊢
            have hzo : w2.heap.size ≤ wo.heap.size := hBd.size
            clear hwo hhas hBr hzr p0 p1 q0 q1 l1 m1 x0 Hxc l2 hlb hmb hxb
            obtain ⟨p1, q1, -, m1, -⟩ := hKr
            have hb1 := cell_lt p1
            have hb2 := cell_lt q1
            have hb3 := cell_lt m1
            have Hxc := Lib.hid hxc'
            have Hap := Lib.hid hap
            have HBd := Lib.hid hBd
            clear hxc' hap hBd
            go_wp2_with fail
            go_loopg [6] m.length (fun g s wr => HRel wo m.length g s wr)
            case atStart => exact ⟨0, rfl, Nat.zero_le _, rfl, Below.refl _ _⟩
            case round =>
              obtain ⟨k2, rfl, hkm, rfl, hBk⟩ := hrel
              have hzk := hBk.size
              have p1k := below_at hBk p1 hb1
              have q1k := below_at hBk q1 hb2
              have m1k := below_at hBk m1 hb3
              by_cases hlt2 : k2 < m.length
              · go_wp2_with fail
                go_loopg [7] ls.length (fun g s wr => HRel wo ls.length g s wr)
                case atStart => exact ⟨0, rfl, Nat.zero_le _, rfl, hBk⟩
                case round =>
                  clear p1k q1k m1k hBk hzk
                  obtain ⟨j, rfl, hj, rfl, hBj⟩ := hrel
                  have hzj := hBj.size
                  have p1j := below_at hBj p1 hb1
                  have q1j := below_at hBj q1 hb2
                  have m1j := below_at hBj m1 hb3
                  by_cases hlt3 : j < ls.length
                  · by_cases hjk : j = k
                    · subst hjk
                      go_wp2_with fail
                      go_quiet (fail)
                      go_wp2_with fail
                      go_roundg (ls.length - (j + 1))
                      case measure => omega
                      case rel => exact ⟨j + 1, rfl, by omega, by go_num, by (repeat (first | with_reducible exact hBj | with_reducible refine Below.drew ?_ | with_reducible refine Esch.below_drewN ?_ _ | with_reducible refine Below.setCell ?_ (by first | omega | (simp; done) | (simp; omega)) _ | with_reducible refine Below.alloc ?_ (by first | omega | (simp; done) | (simp; omega)) _))⟩
                    · obtain ⟨lb', lo', hpa', -, hlb', hlc'⟩ := (Hp2 wr (HBd.out.trans (hBj.mono hzo))).2 (by omega)
                      cases hpa'
                      obtain ⟨ja, jc, l1, l2, -⟩ := hlc' j hlt3
                      have hxk := below_at hBj (Hxc.out k2 hlt2) (cell_lt (Hxc.out k2 hlt2))
                      have hno := Hap.out k2 j hlt2 hlt3 hjk
                      generalize ls.getD j [] = l at l1 l2 hno
                      generalize m.getD k2 0 = xv at hxk hno
                      have hhas := has_any (Old w) wr.drew ja jc l xv l2
                      rw [decide_eq_false hno] at hhas
                      have hKr : World.cell? wr.drew ⟨w.heap.size, 1, none⟩ = some (.slice (some ⟨lb, lo, none⟩) ls.length pc) ∧ World.cell? wr.drew ⟨w.heap.size + 1, 1, none⟩ = some (.slice (some ⟨mb, mo, none⟩) ms.length qc) ∧ World.cell? wr.drew ⟨lb, lo + j, none⟩ = some (.slice ja l.length jc) ∧ World.cell? wr.drew ⟨mb, mo + k, none⟩ = some (.slice (some ⟨xb, xo, none⟩) m.length mc) ∧ World.cell? wr.drew ⟨xb, xo + k2, none⟩ = some (.int .i64 xv) := ⟨p1j, q1j, l1, m1j, hxk⟩
                      have hj1 : (0 : Int) ≤ j := by omega
                      have hj2 : (j : Int) < ls.length := by omega
                      have hk21 : (0 : Int) ≤ k2 := by omega
                      have hk22 : (k2 : Int) < m.length := by omega
                      have hne : ((j : Int) != (k : Int)) = true := by simp; omega
                      clear hlc' hno l2
                      go_wp2_with fail
                      go_region_held3 (fun W' => W'.cell? ⟨w.heap.size, 1, none⟩ = some (.slice (some ⟨lb, lo, none⟩) ls.length pc) ∧ W'.cell? ⟨w.heap.size + 1, 1, none⟩ = some (.slice (some ⟨mb, mo, none⟩) ms.length qc) ∧ W'.cell? ⟨lb, lo + j, none⟩ = some (.slice ja l.length jc) ∧ W'.cell? ⟨mb, mo + k, none⟩ = some (.slice (some ⟨xb, xo, none⟩) m.length mc) ∧ W'.cell? ⟨xb, xo + k2, none⟩ = some (.int .i64 xv))
                        (with_reducible exact hKr)
                        (first | (go_at_call 28; (with_reducible refine hhas.mono ?_); rintro e w9 ⟨rfl, rfl⟩))
                      go_wp2_with fail
                      go_roundg (ls.length - (j + 1))
                      case measure => omega
                      case rel => exact ⟨j + 1, rfl, by omega, by go_num, by (repeat (first | with_reducible exact hBj | with_reducible refine Below.drew ?_ | with_reducible refine Esch.below_drewN ?_ _ | with_reducible refine Below.setCell ?_ (by first | omega | (simp; done) | (simp; omega)) _ | with_reducible refine Below.alloc ?_ (by first | omega | (simp; done) | (simp; omega)) _))⟩
                  · go_wp2_with fail
                    go_roundg (m.length - (k2 + 1))
                    case measure => omega
                    case rel => exact ⟨k2 + 1, rfl, by omega, by go_num, hBj⟩
              · go_wp2_with fail
                go_roundg (ms.length - (k + 1))
                case measure => omega
                case rel => exact ⟨k + 1, rfl, by omega, by go_num, HBd.out.trans (hBk.mono hzo)⟩
          · go_wp2_with fail
            have HN : Hid (nextB ⟨qe, ms⟩ ⟨pe, ls⟩ = false) := Lib.hid Hbk.out
            have hDW2 : Below w2.heap.size w2 wr.drew := Below.drew hBr
            have hzD2 := hDW2.size
            have hKD2 := KEEP _ hDW2
            have hc1 := copyK_any _ wr.drew qe qa qc ms HT.out (old_below Hq.out (HBw2.out.trans (hDW2.mono (by omega))))
            go_region_held3 (fun W' => W'.cell? ⟨w.heap.size, 0, none⟩ = some (.int .i64 pe) ∧ W'.cell? ⟨w.heap.size, 1, none⟩ = some (.slice pa ls.length pc) ∧ W'.cell? ⟨w.heap.size + 1, 0, none⟩ = some (.int .i64 qe) ∧ W'.cell? ⟨w.heap.size + 1, 1, none⟩ = some (.slice qa ms.length qc))
              (first
                | with_reducible exact hKD2
                | with_reducible exact hKx
                | with_reducible exact hKy
                | with_reducible exact hKz
                | with_reducible exact hKw)
              (first
                | (go_at_call 15; (with_reducible refine hc1.mono ?_); rintro e wx ⟨ax, cx, rfl, hlx, hBx'⟩
                   have hBx : Below w2.heap.size w2 wx := hDW2.trans (hBx'.mono hzD2)
                   have hKx := KEEP _ hBx
                   have hzx := hBx.size
                   have hc2 := copyK_any _ wx pe pa pc ls HS.out (old_below Hp.out (HBw2.out.trans (hBx.mono (by omega))))
                   have Hlx := Lib.hid hlx
                   clear hc1 hlx hBx')
                | (go_at_call 15; (with_reducible refine hc2.mono ?_); rintro e wy ⟨ay, cy, rfl, hly, hBy'⟩
                   have hBy : Below w2.heap.size w2 wy := hBx.trans (hBy'.mono hzx)
                   have hKy := KEEP _ hBy
                   have hzy := hBy.size
                   have hn1 := next_any (fun _ => True) wy qe pe ax ay cx cy ms ls ((Hlx.out.mod (F := none') (Mod.of_below hBy') (fun _ _ _ => id)).sub (fun _ _ _ => trivial)) (hly.sub (fun _ _ _ => trivial))
                   rw [HN.out] at hn1
                   clear hc2 hly hBy' Hlx)
                | (go_at_call 31; (with_reducible refine hn1.mono ?_); rintro e wz ⟨rfl, hBz'⟩
                   have hBz : Below w2.heap.size w2 wz := hBy.trans (hBz'.mono hzy)
                   have hKz := KEEP _ hBz
                   have hzz := hBz.size
                   have hwk := wakes7_any wz
                   clear hn1 hBz')
                | (go_at_call 30; (with_reducible refine hwk.mono ?_); rintro e ww ⟨rfl, hBw'⟩
                   have hBw : Below w2.heap.size w2 ww := hBz.trans (hBw'.mono hzz)
                   have hKw := KEEP _ hBw
                   clear hwk hBw'))
            go_wp2_with fail
            go_ret
            exact ⟨rfl, HBw2.out.trans (hBw.mono (by omega))⟩
      · rw [show nextB ⟨pe, ls⟩ ⟨qe, ms⟩ = false from decide_eq_false hnx]
        clear hnx
        go_wp2_with fail
        have HN : Hid (nextB ⟨qe, ms⟩ ⟨qe, ms⟩ = false) := Lib.hid (next_self _)
        have hDW2 : Below w2.heap.size w2 wz.drew := Below.drew hBz
        have hzD2 := hDW2.size
        have hKD2 := KEEP _ hDW2
        have hc1 := copyK_any _ wz.drew qe qa qc ms HT.out (old_below Hq.out (HBw2.out.trans (hDW2.mono (by omega))))
        go_region_held3 (fun W' => W'.cell? ⟨w.heap.size, 0, none⟩ = some (.int .i64 pe) ∧ W'.cell? ⟨w.heap.size, 1, none⟩ = some (.slice pa ls.length pc) ∧ W'.cell? ⟨w.heap.size + 1, 0, none⟩ = some (.int .i64 qe) ∧ W'.cell? ⟨w.heap.size + 1, 1, none⟩ = some (.slice qa ms.length qc))
          (first
            | with_reducible exact hKD2
            | with_reducible exact hKx
            | with_reducible exact hKy
            | with_reducible exact hKz
            | with_reducible exact hKw)
          (first
            | (go_at_call 15; (with_reducible refine hc1.mono ?_); rintro e wx ⟨ax, cx, rfl, hlx, hBx'⟩
               have hBx : Below w2.heap.size w2 wx := hDW2.trans (hBx'.mono hzD2)
               have hKx := KEEP _ hBx
               have hzx := hBx.size
               have hc2 := copyK_any _ wx qe qa qc ms HT.out (old_below Hq.out (HBw2.out.trans (hBx.mono (by omega))))
               have Hlx := Lib.hid hlx
               clear hc1 hlx hBx')
            | (go_at_call 15; (with_reducible refine hc2.mono ?_); rintro e wy ⟨ay, cy, rfl, hly, hBy'⟩
               have hBy : Below w2.heap.size w2 wy := hBx.trans (hBy'.mono hzx)
               have hKy := KEEP _ hBy
               have hzy := hBy.size
               have hn1 := next_any (fun _ => True) wy qe qe ax ay cx cy ms ms ((Hlx.out.mod (F := none') (Mod.of_below hBy') (fun _ _ _ => id)).sub (fun _ _ _ => trivial)) (hly.sub (fun _ _ _ => trivial))
               rw [HN.out] at hn1
               clear hc2 hly hBy' Hlx)
            | (go_at_call 31; (with_reducible refine hn1.mono ?_); rintro e wz ⟨rfl, hBz'⟩
               have hBz : Below w2.heap.size w2 wz := hBy.trans (hBz'.mono hzy)
               have hKz := KEEP _ hBz
               have hzz := hBz.size
               have hwk := wakes7_any wz
               clear hn1 hBz')
            | (go_at_call 30; (with_reducible refine hwk.mono ?_); rintro e ww ⟨rfl, hBw'⟩
               have hBw : Below w2.heap.size w2 ww := hBz.trans (hBw'.mono hzz)
               have hKw := KEEP _ hBw
               clear hwk hBw'))
        go_wp2_with fail
        go_ret
        exact ⟨rfl, HBw2.out.trans (hBw.mono (by omega))⟩
    · go_wp2_with fail
      refine (wakes7_any _).mono ?_
      rintro r w3 ⟨rfl, hB3⟩
      go_wp2_with fail
      go_ret
      exact ⟨rfl, hBw2.trans (hB3.mono (by omega))⟩
  · go_wp2_with fail
    refine (wakes7_any _).mono ?_
    rintro r w3 ⟨rfl, hB3⟩
    go_wp2_with fail
    go_ret
    exact ⟨rfl, hBw1.trans (hB3.mono (by omega))⟩
end Go.Proofs.Ytchidgpaejkaiaa
