/- units that are trimmed, and a fetch that fills nothing: plain Lean -/
import Derived.Test.YtohmmjaikhpcfaaGreatFetT
import Derived.Test.YtohmmjaikhpcfaaGreatMends
namespace Go.Proofs.YtohmmjaikhpcfaaGreat
open Go.RowKit Esch

theorem get_keep {V : Type} (m : List (Int × V)) (E a : Int) : get (m.filter fun p => decide (E ≤ p.1)) a = if a < E then none else get m a := by
  induction m with
  | nil => show none = _; by_cases e : a < E
           · rw [if_pos e]
           · rw [if_neg e]; rfl
  | cons p m ih =>
    obtain ⟨k, v⟩ := p
    show get (List.filter _ _) a = if a < E then none else (if k = a then some v else get m a)
    by_cases e : E ≤ k
    · rw [List.filter_cons_of_pos (by simpa using e)]
      show (if k = a then some v else get _ a) = _
      rw [ih]
      by_cases e1 : k = a
      · rw [if_pos e1, if_pos e1, if_neg (by omega)]
      · rw [if_neg e1, if_neg e1]
    · rw [List.filter_cons_of_neg (by simpa using e), ih]
      by_cases e1 : a < E
      · rw [if_pos e1, if_pos e1]
      · rw [if_neg e1, if_neg e1, if_neg (by omega)]
theorem VI.toE {nd : NdS} {R : Nat} {M : Pgs} (h : VI nd R M) : VwE nd R 0 14 (fun _ => 0) M := by
  obtain ⟨P, h1, h2⟩ := h.vw.at'
  exact ⟨P, h1, fun u hu => ⟨⟨(h2 u hu).1.room, (h2 u hu).1.edge, (h2 u hu).1.len, (h2 u hu).1.kinds, (h2 u hu).1.apart⟩, (h2 u hu).2⟩⟩
def edT (a n i : Nat) : Nat → Nat := fun j => if uT a 0 ≤ j ∧ j < uT a 0 + i then n else 0
def mTr (M : Pgs) (a n i : Nat) : Pgs := fun j p => if (uT a 0 ≤ j ∧ j < uT a 0 + i) ∧ p < n then none else M j p
def qTr (a n i : Nat) : QS := ⟨4, (uT a i : Nat), 0, n, 0, 0, ⟨#[]⟩, Esch.p0⟩
theorem uT_add (a k : Nat) : uT a k = uT a 0 + k := by unfold uT; omega
theorem VwE.trimmed {nd : NdS} {R : Nat} {M : Pgs} {a n i : Nat} (h : VwE nd R 0 14 (edT a n i) (mTr M a n i)) (hi : i < lenT a) (hn : n ≤ 14) : (nd.do (qTr a n i)).1 = anU 0 ⟨#[]⟩ ∧ VwE (nd.do (qTr a n i)).2 R 0 14 (edT a n (i + 1)) (mTr M a n (i + 1)) := by
  have hu : uT a i < 16 := by have := uT_lt hi; omega
  have hui := uT_add a i
  obtain ⟨P, h1, h2⟩ := h
  obtain ⟨g1, g2⟩ := h1.trim (uT a i) hu (n : Int) ⟨#[]⟩
  obtain ⟨p1, p2⟩ := h2 _ hu
  have he : (P (uT a i)).edge = 0 := by rw [p1.edge]; unfold edT; rw [if_neg (by omega)]
  have ht : (P (uT a i)).trim (n : Int) = (0, { P (uT a i) with edge := n, m := (P (uT a i)).m.filter fun p => decide ((n : Int) ≤ p.1) }) := by
    unfold PgS.trim
    rw [if_neg (by omega), he]
    simp
  rw [ht] at g1 g2
  refine ⟨g1, _, g2, fun j hj => ?_⟩
  unfold upd
  by_cases e : j = uT a i
  · subst e
    rw [if_pos rfl]
    have e2 : edT a n (i + 1) (uT a i) = n := by unfold edT; rw [if_pos (by omega)]
    rw [e2]
    refine ⟨⟨p1.room, rfl, Nat.le_trans (List.length_filter_le _ _) p1.len, fun p hp => p1.kinds p (List.mem_filter.1 hp).1, ?_⟩, fun b => ?_⟩
    · exact List.Nodup.sublist (List.Sublist.map _ List.filter_sublist) p1.apart
    · have hb := p2 b
      unfold mTr at hb ⊢
      rw [if_neg (by omega)] at hb
      unfold pval at hb ⊢
      simp only
      rw [get_keep, hb]
      by_cases e3 : b < n
      · rw [if_pos e3, if_pos ⟨by omega, e3⟩]
      · rw [if_neg e3, if_neg (fun h => e3 h.2)]
  · rw [if_neg e]
    have e2 : edT a n (i + 1) j = edT a n i j := by
      unfold edT
      by_cases e3 : uT a 0 ≤ j ∧ j < uT a 0 + i
      · rw [if_pos e3, if_pos (by omega)]
      · rw [if_neg e3, if_neg (by omega)]
    rw [e2]
    refine ⟨(h2 j hj).1, fun b => ?_⟩
    rw [(h2 j hj).2 b]
    unfold mTr
    by_cases e3 : (uT a 0 ≤ j ∧ j < uT a 0 + i) ∧ b < n
    · rw [if_pos e3, if_pos (by omega)]
    · rw [if_neg e3, if_neg (by omega)]
def trS (nd : NdS) (a n : Nat) : Nat → NdS
  | 0 => nd
  | i + 1 => ((trS nd a n i).do (qTr a n i)).2
theorem trS_vw {nd : NdS} {R : Nat} {M : Pgs} (h : VI nd R M) {a n : Nat} (hn : n ≤ 14) : ∀ i, i ≤ lenT a → VwE (trS nd a n i) R 0 14 (edT a n i) (mTr M a n i)
  | 0, _ => by
    have e1 : edT a n 0 = fun _ => 0 := funext fun j => if_neg (by omega)
    have e2 : mTr M a n 0 = M := funext fun j => funext fun p => if_neg (by omega)
    rw [e1, e2]; exact h.toE
  | i + 1, hi => (VwE.trimmed (trS_vw h hn i (by omega)) (by omega) hn).2
theorem Inv.trimmed {M : Pgs} (h : Inv M) (a n : Nat) : Inv (mTr M a n (lenT a)) := by
  refine ⟨fun b hb => ?_, fun u p v hv => ?_⟩
  · obtain ⟨m, v, hp, gv⟩ := h.pre b hb
    have hin : ∀ k, k < lenT b → ((uT a 0 ≤ uT b k ∧ uT b k < uT a 0 + lenT a) ↔ a % 3 = b % 3) := fun k hk => by
      constructor
      · intro g
        obtain ⟨j, hj⟩ : ∃ j, uT b k = uT a 0 + j := ⟨uT b k - uT a 0, by omega⟩
        have hj2 := uT_add a j
        exact (uT_inj (show j < lenT a by omega) hk (by omega)).1
      · intro g
        have e1 : uT a 0 = uT b 0 := by unfold uT; rw [g]
        have e2 : lenT a = lenT b := by unfold lenT; rw [g]
        have := uT_add b k
        omega
    by_cases e : a % 3 = b % 3 ∧ ((b / 3 : Nat) : Int) < n
    · refine ⟨0, (2, ⟨#[]⟩), ⟨Nat.zero_le _, fun k hk => ?_⟩, Or.inl rfl⟩
      unfold mTr
      rw [if_pos ⟨(hin k hk).2 e.1, e.2⟩, if_neg (by omega)]
    · refine ⟨m, v, ⟨hp.le, fun k hk => ?_⟩, gv⟩
      unfold mTr
      rw [if_neg (fun g => e ⟨(hin k hk).1 g.1, g.2⟩)]
      exact hp.at' k hk
  · unfold mTr at hv
    by_cases e : (uT a 0 ≤ u ∧ u < uT a 0 + lenT a) ∧ p < n
    · rw [if_pos e] at hv; cases hv
    · rw [if_neg e] at hv; exact h.dom u p v hv
theorem edT_in {a n k : Nat} (hk : k < lenT a) : edT a n (lenT a) (uT a k) = n := by
  unfold edT
  have := uT_add a k
  rw [if_pos (by omega)]
/-- trimmed below the page: as ever -/
theorem trS_above {nd : NdS} {R : Nat} {M : Pgs} (h : VI nd R M) {a n : Nat} (hn : n ≤ 14) (hp : n ≤ a / 3) : VT a (trS nd a n (lenT a)) R (edT a n (lenT a)) (mTr M a n (lenT a)) :=
  ⟨trS_vw h hn _ (Nat.le_refl _), fun k hk => by rw [edT_in hk]; omega, h.inv.trimmed a n, h.big⟩
end Go.Proofs.YtohmmjaikhpcfaaGreat
