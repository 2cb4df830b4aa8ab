/- what the laws of the tail wake them by -/
import Derived.Test.YthdgochecdobnaaGreatTail3
namespace Go.Proofs.YthdgochecdobnaaGreat
open Go.RowKit Esch

theorem ht_next {w0 w : World} {c t hb : Nat} {U : Nat → Prop} (h : HT w0 c t hb U w) (hc : c < 1000) (ht : t < 16384) : Calls Tryz.prog 18 #[.pointer (some ⟨hb, 0, none⟩), qV q6 none 0, .int .i64 0] w (HTPost w0 (c + 1) (t + 1) hb U w (anN t) true) := by
  obtain ⟨T, s, hH, hT, ho, hh⟩ := h.at'
  refine (handAsk_heard q6 none 0 hH (by omega) (by decide) none' (ListsAt.nil _ _ _) (fun _ h => h.elim)).mono ?_
  rw [do_q6 ho ht]
  rintro e w' ⟨a, c', rfl, hl, hH', hM⟩
  exact ⟨⟨a, c', rfl⟩, h.post hH' (by omega) rfl hh hM, hM⟩
def TwoPost (w : World) (e : Ending) (w' : World) : Prop := ∃ b, e = .returned (.agg #[.int .i64 0, .slice (some ⟨b, 0, none⟩) 1 1]) ∧ ListsAt (From w.heap.size) w' (some ⟨b, 0, none⟩) qTwo.chains ∧ Below w.heap.size w w'
theorem two_any (w : World) : Calls Tryz.prog 17 #[] w (TwoPost w) := by
  have hl := lit14 (w.alloc (.cells #[.int .i64 0, .slice (some ⟨w.heap.size + 1 + 1, 0, none⟩) 1 1] 24)) 0 1
  go_enter Tryz.func17, Tryz.ntmps17
  go_wp2_with fail
  refine bodyPost_ret (v := .agg #[.int .i64 0, .slice (some ⟨w.heap.size + 1 + 1, 0, none⟩) 1 1]) (by simp only [results, Tryz.results17]; go_simp) rfl ?_
  refine ⟨_, rfl, ?_, by (repeat (first | with_reducible exact (Below.refl _ _) | with_reducible refine Below.drew ?_ | with_reducible refine Esch.below_drewN ?_ _ | with_reducible refine Below.setCell ?_ (by first | omega | (simp; done) | (simp; omega)) _ | with_reducible refine Below.alloc ?_ (by first | omega | (simp; done) | (simp; omega)) _))⟩
  have hl2 := hl.sub (T := From w.heap.size) (fun k _ hk => by
    have hk : (w.alloc (.cells #[.int .i64 0, .slice (some ⟨w.heap.size + 1 + 1, 0, none⟩) 1 1] 24)).heap.size ≤ k := hk
    simp only [World.size_alloc] at hk
    show w.heap.size ≤ k
    omega)
  simp only [World.size_alloc] at hl2
  exact hl2
set_option maxRecDepth 100000 in
set_option maxHeartbeats 2000000 in
theorem wakes17_any (w : World) : Calls Tryz.prog 8 #[] w fun e w' => e = .returned (.bool true) ∧ Below w.heap.size w w' := by
  go_enter Tryz.func8, Tryz.ntmps8
  go_wp2_with fail
  refine (two_any _).mono ?_
  rintro e w1 ⟨b1, rfl, hl1, hB1⟩
  go_wp2_with fail
  have hmk : Calls Tryz.prog 16 #[.agg #[.int .i64 0, .slice (some ⟨b1, 0, none⟩) 1 1], .int .i64 9] _ _ := made_any _ w1 qTwo _ 1 9 (by decide) hl1 (by decide) (by decide)
  refine hmk.mono ?_
  clear hmk hl1
  rintro e w2 ⟨hb, rb, nb, rfl, hH2, -, hB2⟩
  have hH := (HO.start hH2 rfl hB1 hB2).toT
  clear hH2 hB2 hB1
  go_wp2_with fail
  refine (two_any _).mono ?_
  rintro e WT ⟨TB, rfl, hlT, hBT⟩
  have hHT := hH.below' hBT
  clear hBT hH
  go_wp2_with fail
  have hse : Calls Tryz.prog 19 #[.pointer (some ⟨hb, 0, none⟩), .agg #[.int .i64 0, .slice (some ⟨TB, 0, none⟩) 1 1], .slice none 0 0] _ _ := see_any hHT (by omega) (by omega) _ _ 1 hlT none [] 0 (by decide) (fun h => absurd h (by simp))
  refine hse.mono ?_
  clear hse hHT hlT
  rintro e WS ⟨rfl, hH, -⟩
  go_wp2_with fail
  have hc3 := ht_next hH (by omega) (by omega)
  simp only [qV, Esch.p0, List.length_nil] at hc3
  refine hc3.mono ?_
  clear hc3 hH
  rintro e w5 ⟨⟨ca, cc, rfl⟩, hH, -⟩
  go_wp2_with fail
  refine (two_any _).mono ?_
  rintro e WT ⟨TB, rfl, hlT, hBT⟩
  have hHT := hH.below' hBT
  clear hBT hH
  go_wp2_with fail
  have hse : Calls Tryz.prog 19 #[.pointer (some ⟨hb, 0, none⟩), .agg #[.int .i64 0, .slice (some ⟨TB, 0, none⟩) 1 1], .slice none 0 0] _ _ := see_any hHT (by omega) (by omega) _ _ 1 hlT none [] 0 (by decide) (fun h => absurd h (by simp))
  refine hse.mono ?_
  clear hse hHT hlT
  rintro e WS ⟨rfl, hH, -⟩
  have hBe := hH.below
  clear hH
  go_wp2_with fail
  go_ret
  exact ⟨rfl, hBe⟩
end Go.Proofs.YthdgochecdobnaaGreat
