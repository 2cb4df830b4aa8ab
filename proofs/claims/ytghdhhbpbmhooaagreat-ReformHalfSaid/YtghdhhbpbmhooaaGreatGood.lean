/- which projections are good -/
import Derived.Test.YtghdhhbpbmhooaaGreatPkKeep
namespace Go.Proofs.YtghdhhbpbmhooaaGreat
open Go.RowKit Esch

def BoolBelow (w : World) (b : Bool) (e : Ending) (w' : World) : Prop := e = .returned (.bool b) ∧ Below w.heap.size w w'
def GoodRel1 (w0 : World) (ls : List (List Int)) (g : Nat) (s30 : Value) (wr : World) : Prop :=
  ∃ k : Nat, g = ls.length - k ∧ k ≤ ls.length ∧ s30 = .int .i64 k ∧ (∀ j, j < k → 1 ≤ (ls.getD j []).length ∧ (ls.getD j []).length ≤ 4) ∧ wr = w0
def GoodRel2 (w : World) (mb r : Nat) (m : List (Int × Int)) (g : Nat) (_s5 : Value) (wr : World) : Prop :=
  ∃ left, g = left.length ∧ Ranges wr mb r κs1 κint m left ∧ (∀ p ∈ m, p ∈ left ∨ unitOk p) ∧ (∀ p ∈ left, p ∈ m) ∧ Below w.heap.size w wr
theorem good_no {e : Int} {ls : List (List Int)} (h : ¬ (Proj.mk e ls).good) : goodB ⟨e, ls⟩ = false := decide_eq_false h
theorem getD_mem {ls : List (List Int)} {j : Nat} (h : j < ls.length) : ls.getD j [] ∈ ls := by
  rw [List.getD_eq_getElem?_getD, List.getElem?_eq_getElem h, Option.getD_some]; exact List.getElem_mem h
theorem forall_getD {ls : List (List Int)} {P : List Int → Prop} : (∀ c ∈ ls, P c) ↔ ∀ j, j < ls.length → P (ls.getD j []) := by
  constructor
  · intro h j hj; exact h _ (getD_mem hj)
  · intro h c hc
    obtain ⟨j, hj, rfl⟩ := List.mem_iff_getElem.1 hc
    have := h j hj
    rwa [List.getD_eq_getElem?_getD, List.getElem?_eq_getElem hj, Option.getD_some] at this

set_option maxHeartbeats 2000000 in
theorem good_any (S : Nat → Prop) (w : World) (e : Int) (a : Option Addr) (c : Nat) (ls : List (List Int)) (h : ListsAt S w a ls) :
    Calls Tryz.prog 45 #[.agg #[.int .i64 e, .slice a ls.length c]] w (BoolBelow w (goodB ⟨e, ls⟩)) := by
  have h0 := h
  obtain ⟨hm, h⟩ := h
  have H := Lib.hid h
  clear h
  by_cases hh : 0 ≤ e ∧ e ≤ 2147483647 ∧ 1 ≤ ls.length ∧ ls.length ≤ 4
  · obtain ⟨g1, g2, g3, g4⟩ := hh
    have g3' : (1 : Int) ≤ ls.length := by omega
    have g4' : (ls.length : Int) ≤ 4 := by omega
    go_enter Tryz.func45, Tryz.ntmps45
    go_wp2_with fail
    go_loopg [30] ls.length (fun g s30 wr => GoodRel1 (w.alloc (.cells #[.int .i64 e, .slice a ls.length c] 24)) ls g s30 wr)
    case atStart => exact ⟨0, rfl, Nat.zero_le _, rfl, fun j hj => absurd hj (by omega), rfl⟩
    case round =>
      obtain ⟨k, rfl, hk, rfl, hj, rfl⟩ := hrel
      have Hj := Lib.hid hj
      clear hj
      by_cases hlt : k < ls.length
      · obtain ⟨b, off, rfl, -, hb, hc⟩ := H.out (by omega)
        obtain ⟨ia, ic, hc1, -⟩ := hc k hlt
        clear hc
        generalize hlk : ls.getD k [] = lk at hc1
        have Hlk := Lib.hid hlk
        clear hlk
        by_cases hx : 1 ≤ lk.length ∧ lk.length ≤ 4
        · have hx1 : (1 : Int) ≤ lk.length := by omega
          have hx2 : (lk.length : Int) ≤ 4 := by omega
          go_wp2_with fail
          go_roundg (ls.length - (k + 1))
          case measure => omega
          case rel =>
            refine ⟨k + 1, rfl, by omega, by go_num, fun j hj => ?_, rfl⟩
            by_cases e : j = k
            · subst e; rw [Hlk.out]; exact hx
            · exact Hj.out j (by omega)
        · have hx' : (lk.length : Int) < 1 ∨ ((1 : Int) ≤ lk.length ∧ (4 : Int) < lk.length) := by omega
          have Hx := Lib.hid hx
          clear hx
          have HG : Hid (goodB ⟨e, ls⟩ = false) := Lib.hid (good_no fun hgd => by
            have := hgd.2.2.2.2.1 _ (getD_mem hlt)
            rw [Hlk.out] at this
            exact Hx.out this)
          rcases hx' with hx | ⟨hx, hx'⟩
          all_goals
            go_wp2_with fail
            go_ret
            rw [HG.out]
            exact ⟨rfl, (Below.refl _ _).alloc (Nat.le_refl _) _⟩
      · have hk3 : k = ls.length := by omega
        subst hk3
        have Hq := Lib.hid ((forall_getD (P := fun c => 1 ≤ c.length ∧ c.length ≤ 4)).2 Hj.out)
        have hS : Small ls := ⟨by omega, fun i hi => by have := Hj.out i hi; omega⟩
        have hcon := met_any S (w.alloc (.cells #[.int .i64 e, .slice a ls.length c] 24)) e a c ls hS (h0.mod ((Mod.refl none' _).alloc _) (fun _ _ _ => id))
        clear hS
        go_wp2_with fail
        refine hcon.mono ?_
        clear hcon
        rintro e1 w1 ⟨mb, rfl, hC, hmb, hB⟩
        have hB1 := ((Below.refl w.heap.size w).alloc (Nat.le_refl _) _).trans (hB.mono (by simp))
        obtain ⟨m, es, clock, hm1, hg⟩ := hC
        have Hg := Lib.hid hg
        clear hg hB hmb
        go_wp2_with (at_range; refine wpList_range_map rfl _ _ rfl _ _ Tryz.underlying141 rfl hm1 ?_; intro w2 hR2 e2)
        go_frame
        have hB2 : Below w.heap.size w w2 := by rw [e2]; exact hB1.alloc hB1.size _
        have hsz := hB1.size
        have Happ := Lib.hid hm1.apart
        clear e2 hm1 hB1
        obtain ⟨r, hr⟩ : ∃ r, r = w1.heap.size := ⟨_, rfl⟩
        rw [← hr] at hR2 ⊢
        have hrw : w.heap.size ≤ r := by omega
        clear hr
        go_loopg [5] m.length (fun g s5 wr => GoodRel2 w mb r m g s5 wr)
        case atStart => exact ⟨m, rfl, hR2, fun p hp => Or.inl hp, fun p hp => hp, hB2⟩
        case round =>
          clear hR2 hB2
          obtain ⟨left, rfl, hR, hok, hsub, hB⟩ := hrel
          have Hsub := Lib.hid hsub
          clear hsub
          have Hok := Lib.hid hok
          clear hok
          go_wp2_with (at_next; refine wpList_next_map rfl _ rfl rfl hR ?_ ?_)
          · intro hl0
            have HL := Lib.hid hl0
            clear hl0
            go_wp2_with fail
            go_ret
            have hall : ∀ p ∈ m, unitOk p := fun p hp => (Hok.out p hp).resolve_left (by rw [HL.out]; simp)
            have := units_ok (us := ls.flatten) fun u n hn => hall (u, n) ((mem_iff_get Happ.out u n).2 (by rw [Hg.out]; exact hn))
            rw [show goodB ⟨e, ls⟩ = true from decide_eq_true ⟨g1, g2, g3, g4, Hq.out, this.1, this.2⟩]
            exact ⟨rfl, hB⟩
          · intro pre u n post w3 hl hR3 hg3 hs3 hen
            have HL := Lib.hid hl
            have hB3 : Below w.heap.size w w3 := hB.grown hg3 hB.size (fun k e => by cases e; exact hrw)
            have hz3 := hB3.size
            clear hl hg3 hs3 hR hB
            simp only [κs1, κint] at hen ⊢
            by_cases hx : unitOk (u, n)
            · have Hx := Lib.hid hx
              obtain ⟨x1, x2, x3⟩ := hx
              simp only at x1 x2 x3
              go_wp2_with fail
              go_roundg (pre ++ post).length
              case measure => rw [HL.out]; simp
              case rel =>
                refine ⟨pre ++ post, rfl, ?_, fun p hp => ?_, fun p hp => Hsub.out p (by rw [HL.out]; simp only [List.mem_append, List.mem_cons] at hp ⊢; rcases hp with h | h <;> simp [h]), ?_⟩
                · have hlt3 := hR3.lt
                  exact hR3.of_blocks (by simp [hlt3.1]) (by simp [hlt3.2])
                · rcases Hok.out p hp with h | h
                  · rw [HL.out] at h
                    simp only [List.mem_append, List.mem_cons] at h ⊢
                    rcases h with h | rfl | h
                    · exact Or.inl (Or.inl h)
                    · exact Or.inr Hx.out
                    · exact Or.inl (Or.inr h)
                  · exact Or.inr h
                · exact belC hB3
            · have hx' : u < 0 ∨ (0 ≤ u ∧ 16 ≤ u) ∨ (0 ≤ u ∧ u < 16 ∧ 1 < n) := by unfold unitOk at hx; simp only at hx; omega
              have Hx := Lib.hid hx
              clear hx
              have hnot : ¬ (Proj.mk e ls).good := by
                intro hgd
                have hmem : (u, n) ∈ m := by
                  exact Hsub.out _ (by rw [HL.out]; simp)
                exact Hx.out (units_ok' (us := ls.flatten) hgd.2.2.2.2.2.1 hgd.2.2.2.2.2.2 ((Hg.out u).symm.trans ((mem_iff_get Happ.out u n).1 hmem)))
              have HG : Hid (goodB ⟨e, ls⟩ = false) := Lib.hid (good_no hnot)
              clear hnot
              rcases hx' with x1 | ⟨x1, x2⟩ | ⟨x1, x2, x3⟩
              all_goals
                go_wp2_with fail
                go_ret
                rw [HG.out]
                exact ⟨rfl, by exact belC hB3⟩
  · have hh' : e < 0 ∨ (0 ≤ e ∧ 2147483647 < e) ∨ (0 ≤ e ∧ e ≤ 2147483647 ∧ (ls.length : Int) < 1) ∨ (0 ≤ e ∧ e ≤ 2147483647 ∧ (1 : Int) ≤ ls.length ∧ (4 : Int) < ls.length) := by omega
    have Hh := Lib.hid hh
    clear hh
    have HG : Hid (goodB ⟨e, ls⟩ = false) := Lib.hid (good_no fun hgd => Hh.out ⟨hgd.1, hgd.2.1, hgd.2.2.1, hgd.2.2.2.1⟩)
    rcases hh' with h1 | ⟨h1, h2⟩ | ⟨h1, h2, h3⟩ | ⟨h1, h2, h3, h4⟩
    all_goals
      go_enter Tryz.func45, Tryz.ntmps45
      go_wp2_with fail
      go_ret
      rw [HG.out]
      exact ⟨rfl, (Below.refl _ _).alloc (Nat.le_refl _) _⟩
end Go.Proofs.YtghdhhbpbmhooaaGreat
