/- are questions fair? (law 13) -/
import Derived.Test.YtnojjohkpkmliaaGreatAsks
namespace Go.Proofs.YtnojjohkpkmliaaGreat
open Go.RowKit Esch

def FairRel (w : World) (qs : Nat → AskC) (n g : Nat) (s3 : Value) (wr : World) : Prop :=
  ∃ k : Nat, g = n - k ∧ k ≤ n ∧ s3 = .int .i64 k ∧ (∀ i, i < k → askLarge (qs i) = false) ∧ Below w.heap.size w wr
set_option maxHeartbeats 1000000 in
theorem fair13_any (w0 : World) (oa : Option Addr) (n cap : Nat) (qs : Nat → AskC) (hn : n ≤ 9223372036854775807) (h : AsksAt w0 oa n qs) (w : World) (hw : Below w0.heap.size w0 w) :
    Calls Tryz.prog 6 #[.slice oa n cap] w fun e w' => ∃ f, e = .returned (.bool f) ∧ (f = true → n ≤ 150 ∧ ∀ i, i < n → askLarge (qs i) = false) ∧ Below w.heap.size w w' := by
  have Hw := Lib.hid hw
  have H := Lib.hid h
  clear hw h
  go_enter Tryz.func6, Tryz.ntmps6
  go_wp2_with fail
  go_loopg [3] n (fun g s3 wr => FairRel w qs n g s3 wr)
  case atStart => exact ⟨0, rfl, Nat.zero_le _, rfl, fun i hi => absurd hi (by omega), Below.refl _ _⟩
  case round =>
    obtain ⟨k, rfl, hk, rfl, hfa, hBr⟩ := hrel
    have Hfa := Lib.hid hfa
    clear hfa
    have hB0 := Hw.out.trans (hBr.mono Hw.out.size)
    by_cases hlt : k < n
    · obtain ⟨b, off, rfl, hb, hd, hl, c0, c1, c2, c3, c4, c5, c6, c7, c8⟩ := H.out.get hlt
      obtain ⟨q, hq⟩ : ∃ q, q = qs k := ⟨_, rfl⟩
      rw [← hq] at hd hl c0 c1 c2 c3 c4 c5 c6 c7 c8
      have Hq := Lib.hid hq
      clear hq
      obtain ⟨qk, qu, qe, qp, qz, qn, qd, qpe, qca, qls, qcc⟩ := q
      simp only at hd hl c0 c1 c2 c3 c4 c5 c6 c7 c8
      replace c0 := below_at hB0 c0 hb
      replace c1 := below_at hB0 c1 hb
      replace c2 := below_at hB0 c2 hb
      replace c3 := below_at hB0 c3 hb
      replace c4 := below_at hB0 c4 hb
      replace c5 := below_at hB0 c5 hb
      replace c6 := below_at hB0 c6 hb
      replace c7 := below_at hB0 c7 hb
      replace c8 := below_at hB0 c8 hb
      have hla := largeAsk_any _ qk qu qe qp qz qn qd hd qpe qca qcc qls wr (old_below hl hB0)
      clear hB0 hl
      go_wp2_with fail
      refine hla.mono ?_
      clear hla
      rintro r w3 ⟨rfl, hB3⟩
      obtain ⟨lg, hlg⟩ : ∃ lg, lg = (decide (6000 < qd.size) || largeProj qls) := ⟨_, rfl⟩
      rw [← hlg]
      have Hlg := Lib.hid hlg
      clear hlg
      have hB4 := hBr.trans (hB3.mono hBr.size)
      cases lg
      · go_wp2_with fail
        go_roundg (n - (k + 1))
        case measure => omega
        case rel =>
          refine ⟨k + 1, rfl, by omega, by go_num, fun i hi => ?_, hB4⟩
          by_cases hi' : i < k
          · exact Hfa.out i hi'
          · obtain rfl : i = k := by omega
            rw [← Hq.out]
            exact Hlg.out.symm
      · go_wp2_with fail
        go_ret
        exact ⟨false, rfl, fun h => (by cases h), hB4⟩
    · have hge : n ≤ k := by omega
      obtain rfl : k = n := by omega
      clear hlt
      by_cases h100 : k ≤ 150
      · go_wp2_with fail
        go_ret
        exact ⟨_, rfl, fun _ => ⟨h100, Hfa.out⟩, hBr⟩
      · have h100' : 150 < k := by omega
        go_wp2_with fail
        go_ret
        refine ⟨_, rfl, fun h => ?_, hBr⟩
        first
          | exact absurd (of_decide_eq_true h) (by omega)
          | cases h
end Go.Proofs.YtnojjohkpkmliaaGreat
