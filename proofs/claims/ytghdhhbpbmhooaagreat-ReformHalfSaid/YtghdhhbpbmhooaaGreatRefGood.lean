/- the document's: which projections are good -/
import Derived.Test.YtghdhhbpbmhooaaGreatRefUnits
import Derived.Test.YtghdhhbpbmhooaaGreatNext
namespace Go.Proofs.YtghdhhbpbmhooaaGreat
open Go.RowKit Esch

def RGoodRel1 (W0 : World) (ls : List (List Int)) (g : Nat) (s3 s4 : Value) (wr : World) : Prop :=
  ∃ k : Nat, g = ls.length - k ∧ k ≤ ls.length ∧ s4 = .int .i64 k ∧ s3 = .int .i64 (ls.take k).flatten.length ∧ (∀ j, j < k → 1 ≤ (ls.getD j []).length ∧ (ls.getD j []).length ≤ 4) ∧ (∀ u ∈ (ls.take k).flatten, 0 ≤ u ∧ u ≤ 15) ∧ wr = W0
def RGoodRel2 (W0 : World) (l : List Int) (g : Nat) (s5 : Value) (wr : World) : Prop :=
  ∃ k : Nat, g = l.length - k ∧ k ≤ l.length ∧ s5 = .int .i64 k ∧ (∀ u ∈ l.take k, 0 ≤ u ∧ u ≤ 15) ∧ wr = W0

set_option maxRecDepth 100000 in
set_option maxHeartbeats 4000000 in
theorem rgood_any (S : Nat → Prop) (w : World) (e : Int) (a : Option Addr) (c : Nat) (ls : List (List Int)) (h : ListsAt S w a ls) :
    Calls Tryz.prog 32 #[.agg #[.int .i64 e, .slice a ls.length c]] w (BoolBelow w (goodB ⟨e, ls⟩)) := by
  have HL := Lib.hid h
  have hn := h.1
  clear h
  obtain ⟨W0, hW0, hB0, hz0, p0, p1⟩ := oneBox w 24 (.int .i64 e) (.slice a ls.length c)
  have HW0 := Lib.hid hW0
  clear hW0
  by_cases hh : 0 ≤ e ∧ e ≤ 2147483647 ∧ 1 ≤ ls.length ∧ ls.length ≤ 4
  · obtain ⟨g1, g2, g3, g4⟩ := hh
    have g3' : (1 : Int) ≤ ls.length := by omega
    have g4' : (ls.length : Int) ≤ 4 := by omega
    go_enter Tryz.func32, Tryz.ntmps32
    go_wp2_with fail
    rw [← HW0.out]
    obtain ⟨pb, hpb⟩ : ∃ pb, pb = w.heap.size := ⟨_, rfl⟩
    rw [← hpb] at p0 p1 ⊢
    have hpz : pb < W0.heap.size := by omega
    clear hpb
    go_loopg [3, 4] ls.length (fun g s3 s4 wr => RGoodRel1 W0 ls g s3 s4 wr)
    case atStart => exact ⟨0, rfl, Nat.zero_le _, rfl, rfl, fun j hj => absurd hj (by omega), fun u hu => by simp at hu, rfl⟩
    case round =>
      obtain ⟨k, rfl, hk, rfl, rfl, hj, hu, rfl⟩ := hrel
      have Hj := Lib.hid hj
      have Hu := Lib.hid hu
      clear hj hu
      by_cases hlt : k < ls.length
      · obtain ⟨b, off, rfl, -, hb, hc⟩ := HL.out.2 (by omega)
        obtain ⟨ia, ic, hc1, hi1, -⟩ := hc k hlt
        clear hc
        replace hc1 := below_at hB0 hc1 hb
        have hi2 := hi1.mod (Mod.of_below (F := none') hB0) (fun _ _ _ => id)
        obtain ⟨-, hi3⟩ := hi2
        have HI := Lib.hid hi3
        clear hi1 hi3
        have hk1 : (0 : Int) ≤ k := by omega
        have hk2 : (k : Int) < ls.length := by omega
        have HT := Lib.hid (flat_take hlt)
        have hml : (ls.take k).flatten.length ≤ 2147483647 := by
          have : ∀ m, m ≤ k → (ls.take m).flatten.length ≤ m * 4 := by
            intro m
            induction m with
            | zero => simp
            | succ m ih =>
              intro hm
              rw [flat_take (by omega), List.length_append]
              have := ih (by omega)
              have := (Hj.out m (by omega)).2
              omega
          have := this k (Nat.le_refl _)
          omega
        have HM := Lib.hid (getD_mem hlt)
        generalize hlk : ls.getD k [] = lk at *
        have Hlk := Lib.hid hlk
        clear hlk
        generalize hpre : (ls.take k).flatten = pre at *
        have Hpre := Lib.hid hpre
        clear hpre
        by_cases hx : 1 ≤ lk.length ∧ lk.length ≤ 4
        · have hx1 : (1 : Int) ≤ lk.length := by omega
          have hx2 : (lk.length : Int) ≤ 4 := by omega
          go_wp2_with fail
          obtain ⟨wo, rfl⟩ : ∃ wo : World, wo = wr := ⟨_, rfl⟩
          go_loopg [5] lk.length (fun g s5 wr => RGoodRel2 wo lk g s5 wr)
          case atStart => exact ⟨0, rfl, Nat.zero_le _, rfl, fun u hu => by simp at hu, rfl⟩
          case round =>
            obtain ⟨j, rfl, hj, rfl, hu2, rfl⟩ := hrel
            have Hu2 := Lib.hid hu2
            clear hu2
            by_cases hlt2 : j < lk.length
            · obtain ⟨b2, off2, rfl, -, hb2, hcj⟩ := HI.out (by omega)
              have hcx := hcj j hlt2
              clear hcj
              have HX := Lib.hid (take_getD hlt2)
              have HMX : Hid (lk.getD j 0 ∈ ls.flatten) := Lib.hid (List.mem_flatten.2 ⟨lk, HM.out, by rw [List.getD_eq_getElem?_getD, List.getElem?_eq_getElem hlt2, Option.getD_some]; exact List.getElem_mem hlt2⟩)
              generalize lk.getD j 0 = x at *
              have hj1 : (0 : Int) ≤ j := by omega
              have hj2 : (j : Int) < lk.length := by omega
              by_cases hxx : 0 ≤ x ∧ x ≤ 15
              · obtain ⟨x1, x2⟩ := hxx
                go_wp2_with fail
                go_roundg (lk.length - (j + 1))
                case measure => omega
                case rel =>
                  refine ⟨j + 1, rfl, by omega, by go_num, fun u hu => ?_, rfl⟩
                  rw [HX.out, List.mem_append, List.mem_singleton] at hu
                  rcases hu with hu | rfl
                  · exact Hu2.out u hu
                  · exact ⟨x1, x2⟩
              · have hx' : x < 0 ∨ (0 ≤ x ∧ 15 < x) := by omega
                have HG : Hid (goodB ⟨e, ls⟩ = false) := Lib.hid (good_no fun hgd => hxx (hgd.2.2.2.2.2.1 x HMX.out))
                clear hxx
                rcases hx' with y1 | ⟨y1, y2⟩
                all_goals
                  go_wp2_with fail
                  go_ret
                  rw [HG.out]
                  exact ⟨rfl, hB0⟩
            · have hj3 : j = lk.length := by omega
              go_wp2_with fail
              go_roundg (ls.length - (k + 1))
              case measure => omega
              case rel =>
                refine ⟨k + 1, rfl, by omega, by go_num, by rw [HT.out, List.length_append]; go_num, fun i hi => ?_, fun u hu => ?_, rfl⟩
                · by_cases ei : i = k
                  · subst ei; rw [Hlk.out]; exact hx
                  · exact Hj.out i (by omega)
                · rw [HT.out, List.mem_append] at hu
                  rcases hu with hu | hu
                  · exact Hu.out u hu
                  · exact Hu2.out u (by rw [hj3, List.take_length]; exact hu)
        · have hx' : (lk.length : Int) < 1 ∨ ((1 : Int) ≤ lk.length ∧ (4 : Int) < lk.length) := by omega
          have HG : Hid (goodB ⟨e, ls⟩ = false) := Lib.hid (good_no fun hgd => hx (hgd.2.2.2.2.1 _ HM.out))
          clear hx
          rcases hx' with hx | ⟨hx, hx'⟩
          all_goals
            go_wp2_with fail
            go_ret
            rw [HG.out]
            exact ⟨rfl, hB0⟩
      · have hk3 : k = ls.length := by omega
        subst hk3
        have Hq := Lib.hid ((forall_getD (P := fun c => 1 ≤ c.length ∧ c.length ≤ 4)).2 Hj.out)
        have hS : Small ls := ⟨by omega, fun i hi => by have := Hj.out i hi; omega⟩
        have hcon := runits_any S wr e a c ls hS (HL.out.mod (Mod.of_below (F := none') hB0) (fun _ _ _ => id))
        have HG : Hid (goodB ⟨e, ls⟩ = (((unitsOf ls.flatten).length : Int) == (ls.flatten.length : Int))) := Lib.hid (by
          have hu := Hu.out
          rw [List.take_length] at hu
          by_cases hnd : ls.flatten.Nodup
          · rw [show goodB ⟨e, ls⟩ = true from decide_eq_true ⟨g1, g2, g3, g4, Hq.out, hu, hnd⟩, (length_unitsOf_iff _).2 hnd]; simp
          · rw [good_no (fun hgd => hnd hgd.2.2.2.2.2.2)]
            symm
            rw [beq_eq_false_iff_ne]
            intro e
            exact hnd ((length_unitsOf_iff _).1 (by omega)))
        clear hS
        rw [List.take_length]
        go_wp2_with fail
        refine hcon.mono ?_
        clear hcon
        rintro r w1 ⟨va, vc, rfl, -, hB1, -⟩
        go_wp2_with fail
        go_ret
        rw [HG.out]
        refine ⟨?_, hB0.trans (hB1.mono (by omega))⟩
        show Ending.returned (.bool (((unitsOf ls.flatten).length : Int) == ((ls.map List.length).sum : Nat))) = _
        rw [List.length_flatten]
  · have hh' : e < 0 ∨ (0 ≤ e ∧ 2147483647 < e) ∨ (0 ≤ e ∧ e ≤ 2147483647 ∧ (ls.length : Int) < 1) ∨ (0 ≤ e ∧ e ≤ 2147483647 ∧ (1 : Int) ≤ ls.length ∧ (4 : Int) < ls.length) := by omega
    have HG : Hid (goodB ⟨e, ls⟩ = false) := Lib.hid (good_no fun hgd => hh ⟨hgd.1, hgd.2.1, hgd.2.2.1, hgd.2.2.2.1⟩)
    clear hh
    rcases hh' with h1 | ⟨h1, h2⟩ | ⟨h1, h2, h3⟩ | ⟨h1, h2, h3, h4⟩
    all_goals
      go_enter Tryz.func32, Tryz.ntmps32
      go_wp2_with fail
      go_ret
      rw [HG.out]
      exact ⟨rfl, (Below.refl _ _).alloc (Nat.le_refl _) _⟩
end Go.Proofs.YtghdhhbpbmhooaaGreat
