import Derived.Test.YtchidgpaejkaiaaRDec
import Derived.Test.YtchidgpaejkaiaaREnc
import Derived.Test.YtchidgpaejkaiaaBack
/- ProjCodes: the walk -/
namespace Go.Proofs.Ytchidgpaejkaiaa
open Go.RowKit Esch

set_option maxRecDepth 100000 in
set_option maxHeartbeats 2000000 in
theorem codes_walk (pe : Int) (pa : Option Addr) (pc : Nat) (ls : List (List Int)) (s : ByteArray) (hs : s.size ≤ 9223372036854775807) (w : World) (hp : ListsAt (Old w) w pa ls) :
    Calls Try.prog 7 #[.agg #[.int .i64 pe, .slice pa ls.length pc], .string s] w fun e w' => e = .returned (.bool true) ∧ Below w.heap.size w w' := by
  obtain ⟨W0, hW0, hB0, hz0, p0, p1⟩ := oneBox w 24 (.int .i64 pe) (.slice pa ls.length pc)
  have HW0 := Lib.hid hW0
  have Hp := Lib.hid hp
  have hl1 := largeProj_any _ W0 pe pa pc ls (old_below hp hB0)
  clear hW0 hp
  go_enter Try.func7, Try.ntmps7
  go_wp2_with fail
  rw [← HW0.out]
  refine hl1.mono ?_
  clear hl1
  rintro r w1 ⟨rfl, hB1⟩
  have Hsm : Hid (largeProj ls = false → Small ls) := Lib.hid small_ofL
  generalize largeProj ls = lg at Hsm ⊢
  have hz1 := hB1.size
  have hBw1 := hB0.trans (hB1.mono (by omega))
  replace p0 := below_at hB1 p0 (by omega)
  replace p1 := below_at hB1 p1 (by omega)
  cases lg
  · have HS := Lib.hid (Hsm.out rfl)
    clear Hsm hB1
    by_cases h20 : (20000 : Int) < s.size
    · go_wp2_with fail
      refine (wakes7_any _).mono ?_
      rintro r w3 ⟨rfl, hB3⟩
      go_wp2_with fail
      go_ret
      exact ⟨rfl, hBw1.trans (hB3.mono (by omega))⟩
    · have hs' : s.size ≤ 20000 := by omega
      clear h20
      have hcp := copyK_any _ w1 pe pa pc ls HS.out (old_below Hp.out hBw1)
      go_wp2_with fail
      refine hcp.mono ?_
      clear hcp
      rintro r w2 ⟨a2, c2, rfl, hl2, hB2⟩
      have hz2 := hB2.size
      have hBw2 := hBw1.trans (hB2.mono (by omega))
      have he := enc_any _ w2 ⟨pe, ls⟩ a2 c2 hl2
      unfold EncPost at he
      obtain ⟨tv, ev, htv⟩ : ∃ tv ev, (if (Proj.mk pe ls).good then Value.tuple #[.string ⟨(encL ⟨pe, ls⟩).toArray⟩, .int .i64 0] else .tuple #[.string ⟨#[]⟩, .int .i64 11]) = .tuple #[.string tv, .int .i64 ev] ∧ 0 ≤ ev ∧ ev ≤ 11 := by
        by_cases hg : (Proj.mk pe ls).good
        · rw [if_pos hg]; exact ⟨_, _, rfl, by omega, by omega⟩
        · rw [if_neg hg]; exact ⟨_, _, rfl, by omega, by omega⟩
      obtain ⟨htv, hev0, hev1⟩ := htv
      have Htv := Lib.hid htv
      rw [htv] at he
      clear htv
      replace p0 := below_at hB2 p0 (by omega)
      replace p1 := below_at hB2 p1 (by omega)
      clear hB2 hl2
      go_wp2_with fail
      refine he.mono ?_
      clear he
      rintro r w3 ⟨rfl, hB3⟩
      have hz3 := hB3.size
      have hBw3 := hBw2.trans (hB3.mono (by omega))
      replace p0 := below_at hB3 p0 (by omega)
      replace p1 := below_at hB3 p1 (by omega)
      clear hB3
      have he := renc_any _ w3 ⟨pe, ls⟩ pa pc (old_below Hp.out hBw3)
      unfold EncPost at he
      rw [Htv.out] at he
      go_wp2_with fail
      refine he.mono ?_
      clear he Htv
      rintro r w4 ⟨rfl, hB4⟩
      have hz4 := hB4.size
      have hBw4 := hBw3.trans (hB4.mono (by omega))
      clear hB4 p0 p1
      have hd := dec_any w4 s hs
      go_wp2_with fail
      refine hd.mono ?_
      clear hd
      rintro r w5 ⟨a5, c5, h5, hB5⟩
      have hz5 := hB5.size
      have hBw5 := hBw4.trans (hB5.mono (by omega))
      clear hB5
      rcases dec_same s with ⟨hd, hr, hsame⟩ | ⟨hd, hr⟩
      · rcases h5 with ⟨rfl, -, hl5⟩ | ⟨-, hno⟩
        case inr => exact absurd hd hno
        generalize (decAll s).1 = p at hl5 hsame
        obtain ⟨W5, hW5, hB5a, hz5a, q0, q1⟩ := oneBox w5 24 (.int .i64 p.epoch) (.slice a5 p.chains.length c5)
        have HW5 := Lib.hid hW5
        have hBW5 := hBw5.trans (hB5a.mono hBw5.size)
        have Hl5 := Lib.hid (hl5.mod (F := none') (Mod.of_below hB5a) (fun _ _ _ => id))
        have hd2 := rdec_any W5 s hs
        rw [hW5] at hd2
        obtain ⟨qb, hqb⟩ : ∃ qb, qb = w5.heap.size := ⟨_, rfl⟩
        rw [← hqb] at q0 q1
        have hqb5 : qb < W5.heap.size := by omega
        have Hqb := Lib.hid hqb
        clear hW5 hl5 hqb hB5a
        go_wp2_with fail
        rw [← Hqb.out]
        refine hd2.mono ?_
        clear hd2
        rintro r w6 ⟨a6, c6, h6, hB6⟩
        rw [← HW5.out] at hB6 h6
        have hz6 := hB6.size
        have hBw6 := hBW5.trans (hB6.mono hBW5.size)
        replace q0 := below_at hB6 q0 hqb5
        replace q1 := below_at hB6 q1 hqb5
        have Hl6q := Lib.hid (Hl5.out.mod (F := none') (Mod.of_below hB6) (fun _ _ _ => id))
        clear hB6
        rcases h6 with ⟨rfl, -, hl6⟩ | ⟨-, hno⟩
        · rw [hsame] at hl6 ⊢
          clear hsame
          obtain ⟨W6, hW6, hB6a, hz6a, x0, x1⟩ := oneBox w6 24 (.int .i64 p.epoch) (.slice a6 p.chains.length c6)
          have HW6 := Lib.hid hW6
          have hBW6 := hBw6.trans (hB6a.mono hBw6.size)
          have hpj := projSame W6 _ _ p.epoch a5 a6 c5 c6 p.chains (Hl6q.out.mod (F := none') (Mod.of_below hB6a) (fun _ _ _ => id)) (hl6.mod (F := none') (Mod.of_below hB6a) (fun _ _ _ => id))
          have hqb6 : qb < w6.heap.size := by omega
          obtain ⟨xb, hxb⟩ : ∃ xb, xb = w6.heap.size := ⟨_, rfl⟩
          rw [← hxb] at x0 x1
          have Hxb := Lib.hid hxb
          clear hW6 hxb hl6
          go_wp2_with fail
          rw [← HW6.out, ← Hxb.out]
          refine hpj.mono ?_
          clear hpj
          rintro r w7 ⟨rfl, hB7⟩
          have hBw7 := hBW6.trans (hB7.mono hBW6.size)
          go_wp2_with fail
          refine (wakes7_any _).mono ?_
          rintro r w8 ⟨rfl, hB8⟩
          go_wp2_with fail
          go_ret
          exact ⟨rfl, hBw7.trans (hB8.mono hBw7.size)⟩
        · exact absurd hr hno
      · rcases h5 with ⟨-, hno, -⟩ | ⟨rfl, -⟩
        · exact absurd hno hd
        have hl5 : ListsAt (From w4.heap.size) w5 none [] := ListsAt.nil _ _ _
        obtain ⟨W5, hW5, hB5a, hz5a, q0, q1⟩ := oneBox w5 24 (.int .i64 0) (.slice none 0 0)
        have HW5 := Lib.hid hW5
        have hBW5 := hBw5.trans (hB5a.mono hBw5.size)
        have Hl5 := Lib.hid (hl5.mod (F := none') (Mod.of_below hB5a) (fun _ _ _ => id))
        have hd2 := rdec_any W5 s hs
        rw [hW5] at hd2
        obtain ⟨qb, hqb⟩ : ∃ qb, qb = w5.heap.size := ⟨_, rfl⟩
        rw [← hqb] at q0 q1
        have hqb5 : qb < W5.heap.size := by omega
        have Hqb := Lib.hid hqb
        clear hW5 hl5 hqb hB5a
        go_wp2_with fail
        rw [← Hqb.out]
        refine hd2.mono ?_
        clear hd2
        rintro r w6 ⟨a6, c6, h6, hB6⟩
        rw [← HW5.out] at hB6 h6
        have hz6 := hB6.size
        have hBw6 := hBW5.trans (hB6.mono hBW5.size)
        replace q0 := below_at hB6 q0 hqb5
        replace q1 := below_at hB6 q1 hqb5
        have Hl6q := Lib.hid (Hl5.out.mod (F := none') (Mod.of_below hB6) (fun _ _ _ => id))
        clear hB6
        rcases h6 with ⟨-, hno, -⟩ | ⟨rfl, -⟩
        · exact absurd hno hr
        · have hl6 : ListsAt (From W5.heap.size) w6 none [] := ListsAt.nil _ _ _
          obtain ⟨W6, hW6, hB6a, hz6a, x0, x1⟩ := oneBox w6 24 (.int .i64 0) (.slice none 0 0)
          have HW6 := Lib.hid hW6
          have hBW6 := hBw6.trans (hB6a.mono hBw6.size)
          have hpj := projSame W6 _ _ 0 none none 0 0 [] (Hl6q.out.mod (F := none') (Mod.of_below hB6a) (fun _ _ _ => id)) (hl6.mod (F := none') (Mod.of_below hB6a) (fun _ _ _ => id))
          have hqb6 : qb < w6.heap.size := by omega
          obtain ⟨xb, hxb⟩ : ∃ xb, xb = w6.heap.size := ⟨_, rfl⟩
          rw [← hxb] at x0 x1
          have Hxb := Lib.hid hxb
          clear hW6 hxb hl6
          go_wp2_with fail
          rw [← HW6.out, ← Hxb.out]
          refine hpj.mono ?_
          clear hpj
          rintro r w7 ⟨rfl, hB7⟩
          have hBw7 := hBW6.trans (hB7.mono hBW6.size)
          go_wp2_with fail
          refine (wakes7_any _).mono ?_
          rintro r w8 ⟨rfl, hB8⟩
          go_wp2_with fail
          go_ret
          exact ⟨rfl, hBw7.trans (hB8.mono hBw7.size)⟩
  · go_wp2_with fail
    refine (wakes7_any _).mono ?_
    rintro r w3 ⟨rfl, hB3⟩
    go_wp2_with fail
    go_ret
    exact ⟨rfl, hBw1.trans (hB3.mono (by omega))⟩
end Go.Proofs.Ytchidgpaejkaiaa
