/- a hand over new nodes, and the document's -/
import Derived.Test.YtnojjohkpkmliaaGreatRHand4
import Derived.Test.YtnojjohkpkmliaaGreatRNewNo
import Derived.Test.YtnojjohkpkmliaaGreatPkHand
import Derived.Test.YtnojjohkpkmliaaGreatCopyK
namespace Go.Proofs.YtnojjohkpkmliaaGreat
open Go.RowKit Esch

def Made2Post (w0 w : World) (q : Proj) (room : Nat) (e : Ending) (w' : World) : Prop := ∃ hb rb U R, e = .returned (.tuple #[.pointer (some ⟨hb, 0, none⟩), .pointer (some ⟨rb, 0, none⟩), .bool true]) ∧ HandAt w' hb U 16 ⟨nd0 q room, []⟩ ∧ RHAt w0 w' rb R 16 ⟨nd0 q room, []⟩ ∧ (∀ k, U k → ¬ R k) ∧ (∀ k, U k ∨ R k → w.heap.size ≤ k) ∧ Below w.heap.size w w'
set_option maxRecDepth 100000 in
set_option maxHeartbeats 2000000 in
theorem made2_any (S : Nat → Prop) (w0 w : World) (q : Proj) (a : Option Addr) (c room : Nat) (hq : q.good) (hl : ListsAt S w a q.chains) (h1 : 1 ≤ room) (h2 : room ≤ 4096) (hw : Below w0.heap.size w0 w) :
    Calls Tryz.prog 17 #[.agg #[.int .i64 q.epoch, .slice a q.chains.length c], .int .i64 room] w (Made2Post w0 w q room) := by
  obtain ⟨W0, hW0, hB0, hz0, p0, p1⟩ := oneBox w 24 (.int .i64 q.epoch) (.slice a q.chains.length c)
  have hl0 := hl.mod (F := none') (Mod.of_below hB0) (fun _ _ _ => id)
  have hcp := copyK_any S W0 q.epoch a c q.chains (good_small hq) hl0
  have HW0 := Lib.hid hW0
  have Hq := Lib.hid hq
  have HL0 := Lib.hid hl0
  have Hw := Lib.hid hw
  clear hW0 hl hl0 hq hw
  go_enter Tryz.func17, Tryz.ntmps17
  go_wp2_with fail
  rw [← HW0.out]
  refine hcp.mono ?_
  clear hcp
  rintro e w1 ⟨a1, c1, rfl, hl1, hB1⟩
  have hz1 := hB1.size
  replace p0 := below_at hB1 p0 (by omega)
  replace p1 := below_at hB1 p1 (by omega)
  have hrn := rpcNew_nd _ w1 q a1 c1 room Hq.out hl1 h1 h2
  clear hl1
  go_wp2_with fail
  refine hrn.mono ?_
  clear hrn
  rintro e w2 ⟨nb, rfl, hN2, hB2⟩
  have hz2 := hB2.size
  replace p0 := below_at hB2 p0 (by omega)
  replace p1 := below_at hB2 p1 (by omega)
  have hB02 : Below W0.heap.size W0 w2 := hB1.trans (hB2.mono hz1)
  have hrr := r13New_any S w2 q a c room Hq.out (HL0.out.mod (F := none') (Mod.of_below hB02) (fun _ _ _ => id)) h1 h2
  have HN2 := Lib.hid hN2
  clear hN2
  go_wp2_with fail
  refine hrr.mono ?_
  clear hrr
  rintro e w3 ⟨qb, rfl, hR3, hB3⟩
  have hz3 := hB3.size
  have HN3 := Lib.hid (HN2.out.below hB3)
  have HR3 := Lib.hid hR3
  have hhn := handNew_any HN3.out
  clear hR3
  go_wp2_with fail
  refine hhn.mono ?_
  clear hhn
  rintro e w4 ⟨rfl, hH4, hc4, hB4⟩
  have hz4 := hB4.size
  have hno := fun (W : World) (hc : W.cell? ⟨w3.heap.size, 0, none⟩ = some (.pointer (some ⟨nb, 0, none⟩))) => handNodes_at hc
  have hl4 := cell_lt hc4
  have HH4 := Lib.hid hH4
  have HR4 := Lib.hid (HR3.out.below hB4)
  clear hH4
  have hBw : Below w.heap.size w w4 := hB0.trans ((hB02.trans ((hB3.trans (hB4.mono hz3)).mono (by omega))).mono (by omega))
  clear hB1 hB2 hB3 hB4 hB02 hB0 p0 p1
  go_wp2_with fail
  refine (hno _ ((cell_alloc_lt w4 _ _ 0 hl4).trans hc4)).mono ?_
  clear hno
  rintro e w5 ⟨rfl, rfl⟩
  go_wp2_with fail
  refine bodyPost_ret (v := .tuple #[.pointer (some ⟨w3.heap.size, 0, none⟩), .pointer (some ⟨w4.heap.size, 0, none⟩), .bool true]) (by simp only [results, Tryz.results17]; go_simp) rfl ?_
  have hzw := Hw.out.size
  have hB5 : Below w4.heap.size w4 (w4.alloc (.cells #[.pointer (some ⟨qb, 0, none⟩), .slice none 0 0] 61)) := (Below.refl _ _).alloc (Nat.le_refl _) _
  refine ⟨_, _, _, fun k => (w2.heap.size ≤ k ∧ k < w3.heap.size) ∨ k = w4.heap.size, rfl, HH4.out.below hB5, ⟨⟨qb, grow none' w2 w3, none', none, 0, [], ⟨by go_simp, by go_simp, by go_simp, HR4.out.below hB5, GRowAt.nil _ _ _ _, rfl, (fun e he => by cases he), fun k hk => hk.elim, fun hk => ?_, id, fun k hk => hk.elim, fun k hk => ?_, by simp, Hw.out.trans ((hBw.trans (hB5.mono (by omega))).mono hzw)⟩, fun k hk => ?_⟩, fun k hk => ?_⟩, fun k hk hr => ?_, fun k hk => ?_, hBw.trans (hB5.mono (by omega))⟩
  · rcases hk with hk | hk
    · exact hk.elim
    · omega
  · rcases hk with (hk | hk) | hk | hk
    · exact hk.elim
    · omega
    · exact hk.elim
    · omega
  · rcases hk with (hk | hk) | hk | hk
    · exact hk.elim
    · exact Or.inl hk
    · exact hk.elim
    · exact Or.inr hk
  · simp only [World.size_alloc]
    rcases hk with hk | hk <;> omega
  · rcases hk with (hk | hk) | hk
    · exact hk.elim
    · rcases hr with hr | hr <;> omega
    · rcases hr with hr | hr <;> omega
  · rcases hk with ((hk | hk) | hk) | (hk | hk)
    · exact hk.elim
    · omega
    · omega
    · omega
    · omega
set_option maxRecDepth 100000 in
set_option maxHeartbeats 2000000 in
theorem made_bad (S : Nat → Prop) (w : World) (q : Proj) (a : Option Addr) (c : Nat) (room : Int) (hs : Small q.chains) (hq : ¬ q.good) (hl : ListsAt S w a q.chains) :
    Calls Tryz.prog 17 #[.agg #[.int .i64 q.epoch, .slice a q.chains.length c], .int .i64 room] w fun e w' => e = .returned (.tuple #[.pointer none, .pointer none, .bool false]) ∧ Below w.heap.size w w' := by
  obtain ⟨W0, hW0, hB0, hz0, p0, p1⟩ := oneBox w 24 (.int .i64 q.epoch) (.slice a q.chains.length c)
  have hl0 := hl.mod (F := none') (Mod.of_below hB0) (fun _ _ _ => id)
  have hcp := copyK_any S W0 q.epoch a c q.chains hs hl0
  have HW0 := Lib.hid hW0
  have Hq := Lib.hid hq
  have HL0 := Lib.hid hl0
  clear hW0 hl hl0 hq
  go_enter Tryz.func17, Tryz.ntmps17
  go_wp2_with fail
  rw [← HW0.out]
  refine hcp.mono ?_
  clear hcp
  rintro e w1 ⟨a1, c1, rfl, hl1, hB1⟩
  have hz1 := hB1.size
  replace p0 := below_at hB1 p0 (by omega)
  replace p1 := below_at hB1 p1 (by omega)
  have hrn := rpcNew_bad _ w1 q a1 c1 room Hq.out hl1
  clear hl1
  go_wp2_with fail
  refine hrn.mono ?_
  clear hrn
  rintro e w2 ⟨rfl, hB2⟩
  have hz2 := hB2.size
  replace p0 := below_at hB2 p0 (by omega)
  replace p1 := below_at hB2 p1 (by omega)
  have hB02 : Below W0.heap.size W0 w2 := hB1.trans (hB2.mono hz1)
  have hrr := r13New_bad S w2 q a c room Hq.out (HL0.out.mod (F := none') (Mod.of_below hB02) (fun _ _ _ => id))
  go_wp2_with fail
  refine hrr.mono ?_
  clear hrr
  rintro e w3 ⟨rfl, hB3⟩
  go_wp2_with fail
  refine bodyPost_ret (v := .tuple #[.pointer none, .pointer none, .bool false]) (by simp only [results, Tryz.results17]; go_simp) rfl ?_
  exact ⟨rfl, hB0.trans ((hB02.trans (hB3.mono (by omega))).mono (by omega))⟩
end Go.Proofs.YtnojjohkpkmliaaGreat
