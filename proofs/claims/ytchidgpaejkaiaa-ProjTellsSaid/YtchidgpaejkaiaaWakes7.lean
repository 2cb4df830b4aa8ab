import Derived.Test.YtchidgpaejkaiaaRound
import Derived.Test.YtchidgpaejkaiaaNext
import Derived.Test.YtchidgpaejkaiaaUnits
/- what the laws of the projections wake them by -/
namespace Go.Proofs.Ytchidgpaejkaiaa
open Go.RowKit Esch

theorem lists2 {S : Nat → Prop} {W : World} {o i0 i1 : Nat} {l0 l1 : List Int} (c0 : W.cell? ⟨o, 0, none⟩ = some (.slice (some ⟨i0, 0, none⟩) l0.length l0.length)) (c1 : W.cell? ⟨o, 1, none⟩ = some (.slice (some ⟨i1, 0, none⟩) l1.length l1.length))
    (h0 : ∀ i, i < l0.length → W.cell? ⟨i0, i, none⟩ = some (.int .i64 (l0.getD i 0))) (h1 : ∀ i, i < l1.length → W.cell? ⟨i1, i, none⟩ = some (.int .i64 (l1.getD i 0)))
    (so : S o) (s0 : S i0) (s1 : S i1) (m0 : l0.length ≤ 100) (m1 : l1.length ≤ 100) : ListsAt S W (some ⟨o, 0, none⟩) [l0, l1] := by
  refine ⟨by simp, fun _ => ⟨o, 0, rfl, so, cell_lt c0, fun i hi => ?_⟩⟩
  have : i = 0 ∨ i = 1 := by simp only [List.length_cons, List.length_nil] at hi; omega
  rcases this with rfl | rfl
  · refine ⟨_, _, c0, ⟨show l0.length ≤ _ by omega, fun h => ⟨i0, 0, rfl, s0, ?_, fun j hj => ?_⟩⟩, Nat.le_refl _, show l0.length ≤ _ by omega⟩
    · exact cell_lt (h0 0 h)
    · rw [Nat.zero_add]; exact h0 j hj
  · refine ⟨_, _, c1, ⟨show l1.length ≤ _ by omega, fun h => ⟨i1, 0, rfl, s1, ?_, fun j hj => ?_⟩⟩, Nat.le_refl _, show l1.length ≤ _ by omega⟩
    · exact cell_lt (h1 0 h)
    · rw [Nat.zero_add]; exact h1 j hj
abbrev pw : Proj := ⟨0, [[0, 1], [2, 3]]⟩
abbrev qw : Proj := ⟨1, [[1], [2, 3, 4]]⟩
abbrev rw' : Proj := ⟨1, [[1, 0], [2, 3]]⟩
def litW (w : World) : World :=
  let n := w.heap.size
  ((((((((((((w.alloc (.cells #[.int .i64 0, .int .i64 1] 3)).alloc (.cells #[.int .i64 2, .int .i64 3] 3)).alloc (.cells #[.slice (some ⟨n, 0, none⟩) 2 2, .slice (some ⟨n + 1, 0, none⟩) 2 2] 45)).alloc
    (.cells #[.int .i64 0, .slice (some ⟨n + 1 + 1, 0, none⟩) 2 2] 24)).alloc (.cells #[.int .i64 1] 3)).alloc (.cells #[.int .i64 2, .int .i64 3, .int .i64 4] 3)).alloc
    (.cells #[.slice (some ⟨n + 1 + 1 + 1 + 1, 0, none⟩) 1 1, .slice (some ⟨n + 1 + 1 + 1 + 1 + 1, 0, none⟩) 3 3] 45)).alloc (.cells #[.int .i64 1, .slice (some ⟨n + 1 + 1 + 1 + 1 + 1 + 1, 0, none⟩) 2 2] 24)).alloc
    (.cells #[.int .i64 1, .int .i64 0] 3)).alloc (.cells #[.int .i64 2, .int .i64 3] 3)).alloc (.cells #[.slice (some ⟨n + 1 + 1 + 1 + 1 + 1 + 1 + 1 + 1, 0, none⟩) 2 2, .slice (some ⟨n + 1 + 1 + 1 + 1 + 1 + 1 + 1 + 1 + 1, 0, none⟩) 2 2] 45)).alloc
    (.cells #[.int .i64 1, .slice (some ⟨n + 1 + 1 + 1 + 1 + 1 + 1 + 1 + 1 + 1 + 1, 0, none⟩) 2 2] 24))
structure LitAt (w W : World) : Prop where
  below : Below w.heap.size w W
  size : W.heap.size = w.heap.size + 12
  p : ListsAt (From w.heap.size) W (some ⟨w.heap.size + 1 + 1, 0, none⟩) pw.chains
  q : ListsAt (From w.heap.size) W (some ⟨w.heap.size + 1 + 1 + 1 + 1 + 1 + 1, 0, none⟩) qw.chains
  r : ListsAt (From w.heap.size) W (some ⟨w.heap.size + 1 + 1 + 1 + 1 + 1 + 1 + 1 + 1 + 1 + 1, 0, none⟩) rw'.chains
  p0 : W.cell? ⟨w.heap.size + 1 + 1 + 1, 0, none⟩ = some (.int .i64 0)
  p1 : W.cell? ⟨w.heap.size + 1 + 1 + 1, 1, none⟩ = some (.slice (some ⟨w.heap.size + 1 + 1, 0, none⟩) 2 2)
  q0 : W.cell? ⟨w.heap.size + 1 + 1 + 1 + 1 + 1 + 1 + 1, 0, none⟩ = some (.int .i64 1)
  q1 : W.cell? ⟨w.heap.size + 1 + 1 + 1 + 1 + 1 + 1 + 1, 1, none⟩ = some (.slice (some ⟨w.heap.size + 1 + 1 + 1 + 1 + 1 + 1, 0, none⟩) 2 2)
  r0 : W.cell? ⟨w.heap.size + 1 + 1 + 1 + 1 + 1 + 1 + 1 + 1 + 1 + 1 + 1, 0, none⟩ = some (.int .i64 1)
  r1 : W.cell? ⟨w.heap.size + 1 + 1 + 1 + 1 + 1 + 1 + 1 + 1 + 1 + 1 + 1, 1, none⟩ = some (.slice (some ⟨w.heap.size + 1 + 1 + 1 + 1 + 1 + 1 + 1 + 1 + 1 + 1, 0, none⟩) 2 2)
structure LitIn (B : Nat) (w W : World) : Prop where
  p : ListsAt (From w.heap.size) W (some ⟨w.heap.size + 1 + 1, 0, none⟩) pw.chains
  q : ListsAt (From w.heap.size) W (some ⟨w.heap.size + 1 + 1 + 1 + 1 + 1 + 1, 0, none⟩) qw.chains
  r : ListsAt (From w.heap.size) W (some ⟨w.heap.size + 1 + 1 + 1 + 1 + 1 + 1 + 1 + 1 + 1 + 1, 0, none⟩) rw'.chains
  p0 : W.cell? ⟨w.heap.size + 1 + 1 + 1, 0, none⟩ = some (.int .i64 0)
  p1 : W.cell? ⟨w.heap.size + 1 + 1 + 1, 1, none⟩ = some (.slice (some ⟨w.heap.size + 1 + 1, 0, none⟩) 2 2)
  q0 : W.cell? ⟨w.heap.size + 1 + 1 + 1 + 1 + 1 + 1 + 1, 0, none⟩ = some (.int .i64 1)
  q1 : W.cell? ⟨w.heap.size + 1 + 1 + 1 + 1 + 1 + 1 + 1, 1, none⟩ = some (.slice (some ⟨w.heap.size + 1 + 1 + 1 + 1 + 1 + 1, 0, none⟩) 2 2)
  r0 : W.cell? ⟨w.heap.size + 1 + 1 + 1 + 1 + 1 + 1 + 1 + 1 + 1 + 1 + 1, 0, none⟩ = some (.int .i64 1)
  r1 : W.cell? ⟨w.heap.size + 1 + 1 + 1 + 1 + 1 + 1 + 1 + 1 + 1 + 1 + 1, 1, none⟩ = some (.slice (some ⟨w.heap.size + 1 + 1 + 1 + 1 + 1 + 1 + 1 + 1 + 1 + 1, 0, none⟩) 2 2)
theorem two_lt {i : Nat} (h : i < 2) : i = 0 ∨ i = 1 := by omega
theorem three_lt {i : Nat} (h : i < 3) : i = 0 ∨ i = 1 ∨ i = 2 := by omega
set_option maxHeartbeats 2000000 in
theorem litAt (w : World) : LitAt w (litW w) := by
  refine ⟨by unfold litW; (repeat (first | with_reducible exact (Below.refl _ _) | with_reducible refine Below.drew ?_ | with_reducible refine Esch.below_drewN ?_ _ | with_reducible refine Below.setCell ?_ (by first | omega | (simp; done) | (simp; omega)) _ | with_reducible refine Below.alloc ?_ (by first | omega | (simp; done) | (simp; omega)) _)), by simp [litW], ?_, ?_, ?_, by unfold litW; go_simp, by unfold litW; go_simp, by unfold litW; go_simp, by unfold litW; go_simp, by unfold litW; go_simp, by unfold litW; go_simp⟩
  · refine lists2 (i0 := w.heap.size) (i1 := w.heap.size + 1) (l0 := [0, 1]) (l1 := [2, 3]) (by unfold litW; go_simp) (by unfold litW; go_simp) ?_ ?_ (by show w.heap.size ≤ _; omega) (by show w.heap.size ≤ _; omega) (by show w.heap.size ≤ _; omega) (by decide) (by decide)
    · intro i hi; rcases two_lt hi with rfl | rfl <;> (unfold litW; go_simp)
    · intro i hi; rcases two_lt hi with rfl | rfl <;> (unfold litW; go_simp)
  · refine lists2 (i0 := w.heap.size + 1 + 1 + 1 + 1) (i1 := w.heap.size + 1 + 1 + 1 + 1 + 1) (l0 := [1]) (l1 := [2, 3, 4]) (by unfold litW; go_simp) (by unfold litW; go_simp) ?_ ?_ (by show w.heap.size ≤ _; omega) (by show w.heap.size ≤ _; omega) (by show w.heap.size ≤ _; omega) (by decide) (by decide)
    · intro i hi; obtain rfl : i = 0 := by simpa using hi
      unfold litW; go_simp
    · intro i hi; rcases three_lt hi with rfl | rfl | rfl <;> (unfold litW; go_simp)
  · refine lists2 (i0 := w.heap.size + 1 + 1 + 1 + 1 + 1 + 1 + 1 + 1) (i1 := w.heap.size + 1 + 1 + 1 + 1 + 1 + 1 + 1 + 1 + 1) (l0 := [1, 0]) (l1 := [2, 3]) (by unfold litW; go_simp) (by unfold litW; go_simp) ?_ ?_ (by show w.heap.size ≤ _; omega) (by show w.heap.size ≤ _; omega) (by show w.heap.size ≤ _; omega) (by decide) (by decide)
    · intro i hi; rcases two_lt hi with rfl | rfl <;> (unfold litW; go_simp)
    · intro i hi; rcases two_lt hi with rfl | rfl <;> (unfold litW; go_simp)
theorem pw_good : pw.good := by decide
set_option maxRecDepth 100000 in
set_option maxHeartbeats 2000000 in
theorem wakes7_any (w : World) : Calls Try.prog 30 #[] w fun e w' => e = .returned (.bool true) ∧ Below w.heap.size w w' := by
  obtain ⟨W, hW⟩ : ∃ W, W = litW w := ⟨_, rfl⟩
  have hL := litAt w
  rw [← hW] at hL
  have HW : Hid (W = _) := Lib.hid hW
  unfold litW at HW
  clear hW
  go_enter Try.func30, Try.ntmps30
  go_wp2_with fail
  rw [← HW.out]
  have hE := enc_any _ W pw _ 2 hL.p
  refine hE.mono ?_
  clear hE
  rintro e w1 ⟨rfl, hB1⟩
  rw [if_pos pw_good]
  have hD := dec_any w1 ⟨(encL pw).toArray⟩ (by decide)
  go_wp2_with fail
  refine hD.mono ?_
  clear hD
  rintro e w2 ⟨a, c, h2, hB2⟩
  rw [decAll_enc pw_good] at h2
  rcases h2 with ⟨rfl, -, hl2⟩ | ⟨-, hno⟩
  case inr => exact absurd (decOk_enc pw_good) hno
  have hz1 := hB1.size
  have hz2 := hB2.size
  have hz := hL.size
  obtain ⟨W3, hW3, hB3, hz3, t0, t1⟩ := oneBox w2 24 (.int .i64 0) (.slice a 2 c)
  have hBW3 : Below W.heap.size W W3 := hB1.trans ((hB2.trans (hB3.mono hz2)).mono hz1)
  have HL : LitIn W.heap.size w W3 := ⟨hL.p.mod (F := none') (Mod.of_below hBW3) (fun _ _ _ => id), hL.q.mod (F := none') (Mod.of_below hBW3) (fun _ _ _ => id), hL.r.mod (F := none') (Mod.of_below hBW3) (fun _ _ _ => id),
    below_at hBW3 hL.p0 (by omega), below_at hBW3 hL.p1 (by omega), below_at hBW3 hL.q0 (by omega), below_at hBW3 hL.q1 (by omega), below_at hBW3 hL.r0 (by omega), below_at hBW3 hL.r1 (by omega)⟩
  have p0' := below_at hB2 (below_at hB1 hL.p0 (by omega)) (by omega)
  have p1' := below_at hB2 (below_at hB1 hL.p1 (by omega)) (by omega)
  have hsz2 : w.heap.size + 1 + 1 + 1 < w2.heap.size := by omega
  have hl3 := hl2.mod (F := none') (Mod.of_below hB3) (fun _ _ _ => id)
  have HBw : Hid (Below w.heap.size w W3) := Lib.hid (hL.below.trans (hBW3.mono (by omega)))
  have Hl3 := Lib.hid hl3
  obtain ⟨tb, htb⟩ : ∃ tb, tb = w2.heap.size := ⟨_, rfl⟩
  rw [← htb] at t0 t1
  have htb3 : tb < W3.heap.size := by omega
  have HW3 := Lib.hid hW3
  have Htb := Lib.hid htb
  have hsz : w.heap.size + 12 ≤ W3.heap.size := by omega
  have hw1 : w.heap.size ≤ w1.heap.size := by omega
  clear hB1 hB2 hl2 hl3 hL hBW3 hW3 htb hz1 hz2 hz hz3 hB3 HW
  obtain ⟨hlp, hlq, hlr, p0, p1, q0, q1, r0, r1⟩ := HL
  have Hlp := Lib.hid hlp
  have Hlq := Lib.hid hlq
  have Hlr := Lib.hid hlr
  have hg := good_any _ W3 0 _ 2 pw.chains hlp
  rw [show goodB ⟨0, pw.chains⟩ = true from decide_eq_true pw_good] at hg
  have hn := fun (W' : World) (hB : Below W3.heap.size W3 W') => next_any _ W' 0 1 _ _ 2 2 pw.chains qw.chains (Hlp.out.mod (F := none') (Mod.of_below hB) (fun _ _ _ => id)) (Hlq.out.mod (F := none') (Mod.of_below hB) (fun _ _ _ => id))
  have hn2 := fun (W' : World) (hB : Below W3.heap.size W3 W') => next_any _ W' 0 1 _ _ 2 2 pw.chains rw'.chains (Hlp.out.mod (F := none') (Mod.of_below hB) (fun _ _ _ => id)) (Hlr.out.mod (F := none') (Mod.of_below hB) (fun _ _ _ => id))
  have hpj := fun (W' : World) (hB : Below W3.heap.size W3 W') => projection_any (From w.heap.size) W' 0 0 _ a 2 c pw.chains pw.chains (Hlp.out.mod (F := none') (Mod.of_below hB) (fun _ _ _ => id)) ((Hl3.out.mod (F := none') (Mod.of_below hB) (fun _ _ _ => id)).sub (fun k _ h => by have : w1.heap.size ≤ k := h; show w.heap.size ≤ k; omega))
  have hu := fun (W' : World) (hB : Below W3.heap.size W3 W') => units_any (From w.heap.size) W' 1 _ 2 qw.chains (by unfold Small; decide) (by decide) (Hlq.out.mod (F := none') (Mod.of_below hB) (fun _ _ _ => id))
  rw [show nextB ⟨0, pw.chains⟩ ⟨1, qw.chains⟩ = true by decide] at hn
  rw [show nextB ⟨0, pw.chains⟩ ⟨1, rw'.chains⟩ = false by decide] at hn2
  rw [show unitsOf qw.chains.flatten = [1, 2, 3, 4] by decide] at hu
  have hpt : decide ((0 : Int) = 0 ∧ pw.chains = pw.chains) = true := by decide
  rw [hpt] at hpj
  clear hpt hlp hlq hlr
  have P0 := Lib.hid p0
  have P1 := Lib.hid p1
  clear p0 p1
  go_wp2_with fail
  rw [← HW3.out, ← Htb.out]
  refine hg.mono ?_
  clear hg p0' p1' hsz2
  rintro e w4 ⟨rfl, hB4⟩
  have hz4 := hB4.size
  have p0 := below_at hB4 P0.out (by omega)
  have p1 := below_at hB4 P1.out (by omega)
  have q0' := below_at hB4 q0 (by omega)
  have q1' := below_at hB4 q1 (by omega)
  go_wp2_with fail
  refine (hn w4 hB4).mono ?_
  clear hn p0 p1 q0' q1'
  rintro e w5 ⟨rfl, hB5'⟩
  have hB5 := hB4.trans (hB5'.mono hz4)
  have hz5 := hB5.size
  clear hB5' hB4 hz4
  have p0 := below_at hB5 P0.out (by omega)
  have p1 := below_at hB5 P1.out (by omega)
  have r0' := below_at hB5 r0 (by omega)
  have r1' := below_at hB5 r1 (by omega)
  go_wp2_with fail
  refine (hn2 w5 hB5).mono ?_
  clear hn2 p0 p1 r0' r1'
  rintro e w6 ⟨rfl, hB6'⟩
  have hB6 := hB5.trans (hB6'.mono hz5)
  have hz6 := hB6.size
  clear hB6' hB5 hz5
  have p0 := below_at hB6 P0.out (by omega)
  have p1 := below_at hB6 P1.out (by omega)
  have t0' := below_at hB6 t0 (by omega)
  have t1' := below_at hB6 t1 (by omega)
  go_wp2_with fail
  refine (hpj w6 hB6).mono ?_
  clear hpj p0 p1 t0' t1'
  rintro e w7 ⟨rfl, hB7'⟩
  have hB7 := hB6.trans (hB7'.mono hz6)
  have hz7 := hB7.size
  clear hB7' hB6 hz6
  have q0' := below_at hB7 q0 (by omega)
  have q1' := below_at hB7 q1 (by omega)
  go_wp2_with fail
  refine (hu w7 hB7).mono ?_
  clear hu q0' q1'
  rintro e w8 ⟨ua, uc, rfl, -, hB8', -⟩
  have hB8 := hB7.trans (hB8'.mono hz7)
  go_wp2_with fail
  go_ret
  exact ⟨rfl, HBw.out.trans (hB8.mono (by omega))⟩
end Go.Proofs.Ytchidgpaejkaiaa
