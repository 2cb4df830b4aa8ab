import Derived.Test.YtchidgpaejkaiaaNexts
/- ProjBack: the walk -/
namespace Go.Proofs.Ytchidgpaejkaiaa
open Go.RowKit Esch

theorem projSame (w : World) (S S' : Nat → Prop) (e : Int) (a a' : Option Addr) (c c' : Nat) (l : List (List Int)) (h : ListsAt S w a l) (h' : ListsAt S' w a' l) :
    Calls Try.prog 20 #[.agg #[.int .i64 e, .slice a l.length c], .agg #[.int .i64 e, .slice a' l.length c']] w (BoolBelow w true) := by
  have := projection_any (fun _ => True) w e e a a' c c' l l (h.sub (fun _ _ _ => trivial)) (h'.sub (fun _ _ _ => trivial))
  rwa [decide_eq_true ⟨rfl, rfl⟩] at this
theorem encL_size {p : Proj} (h : p.good) : (⟨(encL p).toArray⟩ : ByteArray).size ≤ 9223372036854775807 := by
  obtain ⟨-, -, -, g3, g4, -⟩ := h
  have h1 : (⟨(encL p).toArray⟩ : ByteArray).size = (encL p).length := by show (encL p).toArray.size = _; simp
  rw [h1]
  unfold encL
  rw [List.length_append, List.length_append, putB_length, putB_length]
  have := enc_len_le (cs := p.chains) (m := 4) (fun x hx => (g4 x hx).2)
  omega
set_option maxRecDepth 100000 in
set_option maxHeartbeats 2000000 in
theorem back_walk (pe : Int) (pa : Option Addr) (pc : Nat) (ls : List (List Int)) (s : ByteArray) (hs : s.size ≤ 9223372036854775807) (w : World) (hp : ListsAt (Old w) w pa ls) :
    Calls Try.prog 8 #[.agg #[.int .i64 pe, .slice pa ls.length pc], .string s] w fun e w' => e = .returned (.bool true) ∧ Below w.heap.size w w' := by
  obtain ⟨W0, hW0, hB0, hz0, p0, p1⟩ := oneBox w 24 (.int .i64 pe) (.slice pa ls.length pc)
  have HW0 := Lib.hid hW0
  have Hp := Lib.hid hp
  have hl1 := largeProj_any _ W0 pe pa pc ls (old_below hp hB0)
  clear hW0 hp
  go_enter Try.func8, Try.ntmps8
  go_wp2_with fail
  rw [← HW0.out]
  refine hl1.mono ?_
  clear hl1
  rintro r w1 ⟨rfl, hB1⟩
  have Hsm : Hid (largeProj ls = false → Small ls) := Lib.hid small_ofL
  generalize largeProj ls = lg at Hsm ⊢
  have hz1 := hB1.size
  have hBw1 := hB0.trans (hB1.mono (by omega))
  replace p0 := below_at hB1 p0 (by omega)
  replace p1 := below_at hB1 p1 (by omega)
  cases lg
  · have HS := Lib.hid (Hsm.out rfl)
    clear Hsm hB1
    by_cases h20 : (20000 : Int) < s.size
    · go_wp2_with fail
      refine (wakes7_any _).mono ?_
      rintro r w3 ⟨rfl, hB3⟩
      go_wp2_with fail
      go_ret
      exact ⟨rfl, hBw1.trans (hB3.mono (by omega))⟩
    · have hs' : s.size ≤ 20000 := by omega
      clear h20
      have hcp := copyK_any _ w1 pe pa pc ls HS.out (old_below Hp.out hBw1)
      go_wp2_with fail
      refine hcp.mono ?_
      clear hcp
      rintro r w2 ⟨a2, c2, rfl, hl2, hB2⟩
      have hz2 := hB2.size
      have hBw2 := hBw1.trans (hB2.mono (by omega))
      have he := enc_any _ w2 ⟨pe, ls⟩ a2 c2 hl2
      replace p0 := below_at hB2 p0 (by omega)
      replace p1 := below_at hB2 p1 (by omega)
      clear hB2 hl2
      go_wp2_with fail
      refine he.mono ?_
      clear he
      rintro r w3 ⟨rfl, hB3⟩
      have hz3 := hB3.size
      have hBw3 := hBw2.trans (hB3.mono (by omega))
      replace p0 := below_at hB3 p0 (by omega)
      replace p1 := below_at hB3 p1 (by omega)
      clear hB3
      by_cases hg : (Proj.mk pe ls).good
      · rw [if_pos hg]
        have hd := dec_any w3 _ (encL_size hg)
        rw [decAll_enc hg] at hd
        go_wp2_with fail
        refine hd.mono ?_
        clear hd
        rintro r w4 ⟨a4, c4, h4, hB4⟩
        rcases h4 with ⟨rfl, -, hl4⟩ | ⟨-, hno⟩
        case inr => exact absurd (decOk_enc hg) hno
        have hz4 := hB4.size
        have hBw4 := hBw3.trans (hB4.mono (by omega))
        replace p0 := below_at hB4 p0 (by omega)
        replace p1 := below_at hB4 p1 (by omega)
        have hp4 : w.heap.size < w4.heap.size := by omega
        have hl4' := hl4.mod (w' := w4.alloc (.cells #[.int .i64 pe, .slice a4 ls.length c4] 24)) (F := none') ((Mod.refl none' _).alloc _) (fun _ _ _ => id)
        have hB4a : Below w.heap.size w (w4.alloc (.cells #[.int .i64 pe, .slice a4 ls.length c4] 24)) := hBw4.alloc (by omega) _
        have hpj := projSame _ _ _ pe pa a4 pc c4 ls (old_below Hp.out hB4a) hl4'
        clear hl4' hl4 hB4
        go_wp2_with fail
        refine hpj.mono ?_
        clear hpj
        rintro r w5 ⟨rfl, hB5⟩
        have hBw5 := hB4a.trans (hB5.mono (by rw [World.size_alloc]; omega))
        clear hB5 hB4a p0 p1
        have hzX := hBw5.size
        have hdX := dec_any w5 s hs
        go_wp2_with fail
        refine hdX.mono ?_
        clear hdX
        rintro r w6 ⟨a6, c6, h6, hB6⟩
        have hz6 := hB6.size
        have hBw6 := hBw5.trans (hB6.mono (by omega))
        rcases h6 with ⟨rfl, hok, hl6⟩ | ⟨rfl, -⟩
        · have heq := Lib.hid (enc_dec hok)
          have hgd := hok.2.2
          generalize (decAll s).1 = p at heq hgd hl6
          obtain ⟨W6, hW6, hB6a, hz6a, t0, t1⟩ := oneBox w6 24 (.int .i64 p.epoch) (.slice a6 p.chains.length c6)
          have HW6 := Lib.hid hW6
          have he6 := enc_any _ W6 p a6 c6 (hl6.mod (F := none') (Mod.of_below hB6a) (fun _ _ _ => id))
          rw [hW6] at he6
          clear hW6 hl6 hok
          go_wp2_with fail
          refine he6.mono ?_
          clear he6
          rintro r w7 ⟨rfl, hB7'⟩
          rw [← HW6.out] at hB7'
          have hBw7 := (hBw6.trans (hB6a.mono hBw6.size)).trans (hB7'.mono (by omega))
          rw [if_pos hgd, ← heq.out]
          go_wp2_with fail
          refine (wakes7_any _).mono ?_
          rintro r w8 ⟨rfl, hB8⟩
          go_wp2_with fail
          go_ret
          exact ⟨rfl, hBw7.trans (hB8.mono hBw7.size)⟩
        · go_wp2_with fail
          refine (wakes7_any _).mono ?_
          rintro r w8 ⟨rfl, hB8⟩
          go_wp2_with fail
          go_ret
          exact ⟨rfl, (show Below w.heap.size w _ from by (repeat (first | with_reducible exact hBw6 | with_reducible refine Below.drew ?_ | with_reducible refine Esch.below_drewN ?_ _ | with_reducible refine Below.setCell ?_ (by first | omega | (simp; done) | (simp; omega)) _ | with_reducible refine Below.alloc ?_ (by first | omega | (simp; done) | (simp; omega)) _))).trans (hB8.mono (by simp only [World.size_alloc, World.size_drew]; omega))⟩
      · rw [if_neg hg]
        have hzX := hBw3.size
        have hdX := dec_any w3 s hs
        go_wp2_with fail
        refine hdX.mono ?_
        clear hdX
        rintro r w6 ⟨a6, c6, h6, hB6⟩
        have hz6 := hB6.size
        have hBw6 := hBw3.trans (hB6.mono (by omega))
        rcases h6 with ⟨rfl, hok, hl6⟩ | ⟨rfl, -⟩
        · have heq := Lib.hid (enc_dec hok)
          have hgd := hok.2.2
          generalize (decAll s).1 = p at heq hgd hl6
          obtain ⟨W6, hW6, hB6a, hz6a, t0, t1⟩ := oneBox w6 24 (.int .i64 p.epoch) (.slice a6 p.chains.length c6)
          have HW6 := Lib.hid hW6
          have he6 := enc_any _ W6 p a6 c6 (hl6.mod (F := none') (Mod.of_below hB6a) (fun _ _ _ => id))
          rw [hW6] at he6
          clear hW6 hl6 hok
          go_wp2_with fail
          refine he6.mono ?_
          clear he6
          rintro r w7 ⟨rfl, hB7'⟩
          rw [← HW6.out] at hB7'
          have hBw7 := (hBw6.trans (hB6a.mono hBw6.size)).trans (hB7'.mono (by omega))
          rw [if_pos hgd, ← heq.out]
          go_wp2_with fail
          refine (wakes7_any _).mono ?_
          rintro r w8 ⟨rfl, hB8⟩
          go_wp2_with fail
          go_ret
          exact ⟨rfl, hBw7.trans (hB8.mono hBw7.size)⟩
        · go_wp2_with fail
          refine (wakes7_any _).mono ?_
          rintro r w8 ⟨rfl, hB8⟩
          go_wp2_with fail
          go_ret
          exact ⟨rfl, (show Below w.heap.size w _ from by (repeat (first | with_reducible exact hBw6 | with_reducible refine Below.drew ?_ | with_reducible refine Esch.below_drewN ?_ _ | with_reducible refine Below.setCell ?_ (by first | omega | (simp; done) | (simp; omega)) _ | with_reducible refine Below.alloc ?_ (by first | omega | (simp; done) | (simp; omega)) _))).trans (hB8.mono (by simp only [World.size_alloc, World.size_drew]; omega))⟩
  · go_wp2_with fail
    refine (wakes7_any _).mono ?_
    rintro r w3 ⟨rfl, hB3⟩
    go_wp2_with fail
    go_ret
    exact ⟨rfl, hBw1.trans (hB3.mono (by omega))⟩
end Go.Proofs.Ytchidgpaejkaiaa
