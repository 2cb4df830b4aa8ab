import Derived.Test.YtchidgpaejkaiaaWakes7
import Derived.Test.YtchidgpaejkaiaaRefNext
import Derived.Test.YtchidgpaejkaiaaCopyK
import Derived.Test.YtchidgpaejkaiaaOld
/- ProjNexts: the walk -/
namespace Go.Proofs.Ytchidgpaejkaiaa
open Go.RowKit Esch

theorem small_ofL {ls : List (List Int)} (h : largeProj ls = false) : Small ls := by
  unfold largeProj at h
  rw [Bool.or_eq_false_iff] at h
  obtain ⟨h1, h2⟩ := h
  refine ⟨by simpa using h1, fun i hi => ?_⟩
  rw [List.any_eq_false] at h2
  have hm : ls.getD i [] ∈ ls := by rw [List.getD_eq_getElem?_getD, List.getElem?_eq_getElem hi, Option.getD_some]; exact List.getElem_mem hi
  have := h2 _ hm
  simpa using this
set_option maxRecDepth 100000 in
set_option maxHeartbeats 2000000 in
theorem nexts_walk (pe qe : Int) (pa qa : Option Addr) (pc qc : Nat) (ls ms : List (List Int)) (w : World) (hp : ListsAt (Old w) w pa ls) (hq : ListsAt (Old w) w qa ms) :
    Calls Try.prog 6 #[.agg #[.int .i64 pe, .slice pa ls.length pc], .agg #[.int .i64 qe, .slice qa ms.length qc]] w fun e w' => e = .returned (.bool true) ∧ Below w.heap.size w w' := by
  obtain ⟨W0, hW0, hB0, hz0, p0, p1, q0, q1⟩ := twoBox w 24 (.int .i64 pe) (.slice pa ls.length pc) (.int .i64 qe) (.slice qa ms.length qc)
  have HW0 := Lib.hid hW0
  have Hp := Lib.hid hp
  have Hq := Lib.hid hq
  have hl1 := largeProj_any _ W0 pe pa pc ls (old_below hp hB0)
  clear hW0 hp hq
  go_enter Try.func6, Try.ntmps6
  go_wp2_with fail
  rw [← HW0.out]
  refine hl1.mono ?_
  clear hl1
  rintro r w1 ⟨rfl, hB1⟩
  have Hsm : Hid (largeProj ls = false → Small ls) := Lib.hid small_ofL
  generalize largeProj ls = lg at Hsm ⊢
  have hz1 := hB1.size
  have hBw1 := hB0.trans (hB1.mono (by omega))
  replace p0 := below_at hB1 p0 (by omega)
  replace p1 := below_at hB1 p1 (by omega)
  replace q0 := below_at hB1 q0 (by omega)
  replace q1 := below_at hB1 q1 (by omega)
  cases lg
  · have hsm := Hsm.out rfl
    have HS := Lib.hid hsm
    have hl2 := largeProj_any _ w1 qe qa qc ms (old_below Hq.out hBw1)
    clear hsm Hsm hB1
    go_wp2_with fail
    refine hl2.mono ?_
    clear hl2
    rintro r w2 ⟨rfl, hB2⟩
    have Hsm : Hid (largeProj ms = false → Small ms) := Lib.hid small_ofL
    generalize largeProj ms = lg at Hsm ⊢
    have hz2 := hB2.size
    have hBw2 := hBw1.trans (hB2.mono (by omega))
    replace p0 := below_at hB2 p0 (by omega)
    replace p1 := below_at hB2 p1 (by omega)
    replace q0 := below_at hB2 q0 (by omega)
    replace q1 := below_at hB2 q1 (by omega)
    cases lg
    · have HT := Lib.hid (Hsm.out rfl)
      clear Hsm hB2
      go_wp2_with fail
      have KEEP : ∀ W', Below w2.heap.size w2 W' → W'.cell? ⟨w.heap.size, 0, none⟩ = some (.int .i64 pe) ∧ W'.cell? ⟨w.heap.size, 1, none⟩ = some (.slice pa ls.length pc) ∧ W'.cell? ⟨w.heap.size + 1, 0, none⟩ = some (.int .i64 qe) ∧ W'.cell? ⟨w.heap.size + 1, 1, none⟩ = some (.slice qa ms.length qc) :=
        fun W' h => ⟨below_at h p0 (by omega), below_at h p1 (by omega), below_at h q0 (by omega), below_at h q1 (by omega)⟩
      have hD : Below w2.heap.size w2 w2.drew := (Below.refl _ _).drew
      have hK := KEEP _ hD
      have hc1 := copyK_any _ w2.drew pe pa pc ls HS.out (old_below Hp.out (hBw2.trans (hD.mono (by omega))))
      go_region_held3 (fun W' => W'.cell? ⟨w.heap.size, 0, none⟩ = some (.int .i64 pe) ∧ W'.cell? ⟨w.heap.size, 1, none⟩ = some (.slice pa ls.length pc) ∧ W'.cell? ⟨w.heap.size + 1, 0, none⟩ = some (.int .i64 qe) ∧ W'.cell? ⟨w.heap.size + 1, 1, none⟩ = some (.slice qa ms.length qc))
        (first
          | with_reducible exact hK
          | with_reducible exact hK3
          | with_reducible exact hK4
          | with_reducible exact hK5
          | with_reducible exact hK6
          | with_reducible exact hK7)
        (first
          | (go_at_call 15; (with_reducible refine hc1.mono ?_); rintro e w3 ⟨a3, c3, rfl, hl3, hB3'⟩
             have hB3 : Below w2.heap.size w2 w3 := hD.trans hB3'
             have hK3 := KEEP _ hB3
             have hz3 := hB3.size
             have hc2 := copyK_any _ w3 qe qa qc ms HT.out (old_below Hq.out (hBw2.trans (hB3.mono (by omega))))
             have Hl3 := Lib.hid hl3
             clear hc1 hl3 hB3')
          | (go_at_call 15; (with_reducible refine hc2.mono ?_); rintro e w4 ⟨a4, c4, rfl, hl4, hB4'⟩
             have hB4 : Below w2.heap.size w2 w4 := hB3.trans (hB4'.mono hz3)
             have hK4 := KEEP _ hB4
             have hz4 := hB4.size
             have hn1 := next_any (fun _ => True) w4 pe qe a3 a4 c3 c4 ls ms ((Hl3.out.mod (F := none') (Mod.of_below hB4') (fun _ _ _ => id)).sub (fun _ _ _ => trivial)) (hl4.sub (fun _ _ _ => trivial))
             clear hc2 hl4 hB4' Hl3)
          | (go_at_call 31; (with_reducible refine hn1.mono ?_); rintro e w5 ⟨rfl, hB5'⟩
             have hB5 : Below w2.heap.size w2 w5 := hB4.trans (hB5'.mono hz4)
             have hK5 := KEEP _ hB5
             have hz5 := hB5.size
             have hn2 := rnext_any _ w5 pe qe pa qa pc qc ls ms (old_below Hp.out (hBw2.trans (hB5.mono (by omega)))) (old_below Hq.out (hBw2.trans (hB5.mono (by omega))))
             clear hn1 hB5')
          | (go_at_call 26; (with_reducible refine hn2.mono ?_); rintro e w6 ⟨rfl, hB6'⟩
             have hB6 : Below w2.heap.size w2 w6 := hB5.trans (hB6'.mono hz5)
             have hK6 := KEEP _ hB6
             have hz6 := hB6.size
             have hwk := wakes7_any w6
             clear hn2 hB6')
          | (go_at_call 30; (with_reducible refine hwk.mono ?_); rintro e w7 ⟨rfl, hB7'⟩
             have hB7 : Below w2.heap.size w2 w7 := hB6.trans (hB7'.mono hz6)
             have hK7 := KEEP _ hB7
             clear hwk hB7'))
      go_wp2_with fail
      go_ret
      exact ⟨rfl, hBw2.trans (hB7.mono (by omega))⟩
    · go_wp2_with fail
      refine (wakes7_any _).mono ?_
      rintro r w3 ⟨rfl, hB3⟩
      go_wp2_with fail
      go_ret
      exact ⟨rfl, hBw2.trans (hB3.mono (by omega))⟩
  · go_wp2_with fail
    refine (wakes7_any _).mono ?_
    rintro r w3 ⟨rfl, hB3⟩
    go_wp2_with fail
    go_ret
    exact ⟨rfl, hBw1.trans (hB3.mono (by omega))⟩
end Go.Proofs.Ytchidgpaejkaiaa
