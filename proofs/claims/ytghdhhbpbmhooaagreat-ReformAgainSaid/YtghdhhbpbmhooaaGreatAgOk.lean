/- a change that is begun anew: plain Lean -/
import Derived.Test.YtghdhhbpbmhooaaGreatChOk
import Derived.Test.YtghdhhbpbmhooaaGreatRe7
namespace Go.Proofs.YtghdhhbpbmhooaaGreat
open Go.RowKit Esch

/-- a round whose question is heard, and no unit is skipped -/
def agTurn (s : HdS × ReS) : HdS × ReS := if s.2.at = 4 then s else ((s.1.ask s.2.ask.1 0).2, s.2.hear (s.1.ask s.2.ask.1 0).1.1 (s.1.ask s.2.ask.1 0).1.2)
def stA (hd : HdS) (q : Proj) : Nat → HdS × ReS
  | 0 => (hd, re0 q)
  | i + 1 => agTurn (stA hd q i)
theorem hd_ask0 (hd : HdS) (q : QS) : hd.ask q 0 = (((hd.nd.do q).1, true), { hd with nd := (hd.nd.do q).2 }) := by
  unfold HdS.ask
  rw [if_pos rfl]
section
variable {p q : Proj} {P : Nat → PgS} {D : Nat → Bool} {E : Nat → Int} {L0 : LayS} {o0 : Ord}
theorem agTurn_inv {s : HdS × ReS} (h : ChI p q P D E L0 o0 s.1.nd s.2) (hp : ChPre p q D E L0 o0) (hD : ∀ i, D i = false) : ChI p q P D E L0 o0 (agTurn s).1.nd (agTurn s).2 := by
  unfold agTurn
  by_cases h4 : s.2.at = 4
  · rw [if_pos h4]; exact h
  rw [if_neg h4, hd_ask0]
  obtain ⟨-, h2, -, h3⟩ := h.both hp h4
  rw [if_neg (h3 hD)] at h2
  exact h2
theorem stA_inv {hd : HdS} (hp : ChPre p q D E L0 o0) (hD : ∀ i, D i = false) (h : ChI p q P D E L0 o0 hd.nd (re0 q)) : ∀ k, ChI p q P D E L0 o0 (stA hd q k).1.nd (stA hd q k).2
  | 0 => h
  | k + 1 => agTurn_inv (stA_inv hp hD h k) hp hD
/-- behind a change that went on somewhere: it counts, or nothing has changed but the units' epochs -/
theorem ChI.half {n : NdS} {re : ReS} (h : ChI p q P D E L0 o0 n re) : n.l = L0.count q ∨ (n.l = L0 ∧ n.o = o0) := by
  rcases h.st with ⟨-, hl, ho, -⟩ | ⟨-, -, -, hl, ho⟩ | ⟨-, -, hl, ho, -⟩ | ⟨-, -, hl, -⟩ | ⟨-, -, -, hl, -⟩
  · exact Or.inr ⟨hl, ho⟩
  · exact Or.inr ⟨hl, ho⟩
  · rcases hl with hl | hl
    · exact Or.inr ⟨hl, ho⟩
    · exact Or.inl hl
  · exact Or.inl hl
  · exact Or.inl hl
end
theorem pre_old {q : Proj} (h : nextB qOld q = true) {E : Nat → Int} (hE : ∀ i, i < 16 → E i = 0 ∨ E i = 1) {D : Nat → Bool} (hD : ∀ u ∈ usP qOld, D u.toNat = true → u ∉ usP q) : ChPre qOld q D E (lay0 qOld) ⟨0, true, 0⟩ := by
  have hn : qOld.next q := of_decide_eq_true h
  have he : q.epoch = 1 := hn.2.2.1
  refine ⟨h, ?_, rfl, fun i hi => ?_, hD, ?_⟩
  · unfold mayB
    rw [show (lay0 qOld).p = qOld from rfl, h, Bool.true_and, Bool.not_eq_true']
    refine List.any_eq_false.2 (fun u _ => ?_)
    have : u ∈ (lay0 qOld).used ↔ u ∈ (lay0 qOld).p.units := mem_unitsOf
    by_cases hu : u ∈ (lay0 qOld).used
    · have h3 : u ∈ qOld.units := this.1 hu
      simp [h3]
    · simp [hu]
  · rw [he]; rcases hE i hi with e | e <;> omega
  · show (0 : Int) < q.epoch; omega
theorem old_epoch {q : Proj} (h : nextB qOld q = true) : q.epoch = 1 := (of_decide_eq_true h : qOld.next q).2.2.1
def hdO : HdS := ⟨nd0 qOld 100, []⟩
theorem again_start {q : Proj} (h : nextB qOld q = true) : ChI qOld q (fun _ => (un0 100).pg) (fun _ => false) (fun _ => 0) (lay0 qOld) ⟨0, true, 0⟩ hdO.nd (re0 q) :=
  ChI.start (pre_old h (fun _ _ => Or.inl rfl) (fun _ _ e => by cases e)) (fun _ _ => ⟨rfl, rfl⟩) (fun _ _ => rfl) rfl rfl
/-- another one came first -/
theorem late (hd : HdS) (r : Proj) (hg : r.good) (hl : nextB hd.nd.l.p r = false) : (stC hd r [] 60).1.nd.l = hd.nd.l ∧ (stC hd r [] 60).2.at = 4 ∧ (stC hd r [] 60).2.overE = 48 := by
  have hr : re0 r = ⟨r, Esch.p0, 0, 0, [], 0⟩ := by unfold re0; rw [if_neg (by rw [show goodB r = true from decide_eq_true hg]; simp)]
  have h1 : stC hd r [] 1 = (hd, (re0 r).endd 48) := by
    show chTurn (hd, re0 r) (fateF [] 0) = _
    rw [show fateF [] 0 = 0 from rfl, hr]
    unfold chTurn
    rw [if_neg (by simp)]
    have ha : (ReS.mk r Esch.p0 0 0 [] 0).ask.1 = qLay := rfl
    rw [ha, hd_ask0, nd_lay]
    simp only
    rw [if_neg (by simp)]
    unfold ReS.hear
    rw [if_neg (by simp), if_pos rfl, if_neg (by simp), hl]
    rfl
  have h4 : (stC hd r [] 1).2.at = 4 := by rw [h1]; rfl
  have := stC_stop h4 59
  rw [show 60 = 1 + 59 from rfl, this, h1]
  exact ⟨rfl, rfl, rfl⟩
theorem again_out {q r : Proj} (hq : nextB qOld q = true) (hr : nextB qOld r = true) (n : Nat) :
    ((stA hdO q n).1.nd.l.p.epoch = 1 ∧ (stC (stA hdO q n).1 r [] 60).1.nd.l.p = q ∧ (stC (stA hdO q n).1 r [] 60).2.at = 4 ∧ (stC (stA hdO q n).1 r [] 60).2.overE = 48) ∨
    ((stA hdO q n).1.nd.l.p.epoch = 0 ∧ (stC (stA hdO q n).1 r [] 60).1.nd.l.p = r ∧ (stC (stA hdO q n).1 r [] 60).2.at = 4 ∧ (stC (stA hdO q n).1 r [] 60).2.overE = 0) := by
  have hI := stA_inv (pre_old hq (fun _ _ => Or.inl rfl) (fun _ _ e => by cases e)) (fun _ => rfl) (again_start hq) n
  have heq := old_epoch hq
  generalize stA hdO q n = s at *
  have her := old_epoch hr
  rcases hI.half with hl | ⟨hl, ho⟩
  · refine Or.inl ?_
    have hp : s.1.nd.l.p = q := by rw [hl]; rfl
    have hlate := late s.1 r (of_decide_eq_true hr : qOld.next r).2.1 (by
      rw [hp]
      unfold nextB
      refine decide_eq_false (fun e => ?_)
      have := e.2.2.1
      omega)
    refine ⟨by rw [hp]; exact heq, by rw [hlate.1, hp], hlate.2⟩
  · refine Or.inr ?_
    have hpre : ChPre qOld r (fun _ => false) (fun i => (s.1.nd.units i).epoch) (lay0 qOld) ⟨0, true, 0⟩ := pre_old hr (fun i hi => by
      rcases hI.ep i hi with e | e
      · exact Or.inl e
      · exact Or.inr (e.trans heq)) (fun _ _ e => by cases e)
    have hst : ChI qOld r (fun _ => (un0 100).pg) (fun _ => false) (fun i => (s.1.nd.units i).epoch) (lay0 qOld) ⟨0, true, 0⟩ s.1.nd (re0 r) := ChI.start hpre hI.pg (fun _ _ => rfl) hl ho
    have hend := stC_end (hd := s.1) hpre hst []
    rw [show ([] : List Int).length + 60 = 60 from rfl] at hend
    refine ⟨by rw [hl]; rfl, ?_, hend.fin.1, hend.fin.2⟩
    rw [hend.lay]
    rfl
end Go.Proofs.YtghdhhbpbmhooaaGreat
