/- a change of the projection over nodes: plain Lean -/
import Derived.Test.YtghdhhbpbmhooaaGreatPkRe2
namespace Go.Proofs.YtghdhhbpbmhooaaGreat
open Go.RowKit Esch

abbrev qLay : QS := ⟨9, 0, 0, 0, 0, 0, ⟨#[]⟩, Esch.p0⟩
abbrev qChg (q : Proj) : QS := ⟨10, 0, 0, 0, 0, 0, ⟨#[]⟩, q⟩
abbrev qStart (e t : Int) : QS := ⟨8, 0, e, t, 0, 0, ⟨#[]⟩, Esch.p0⟩
abbrev qSeal (u e : Int) : QS := ⟨5, u, e, 0, 0, 0, ⟨#[]⟩, Esch.p0⟩
theorem nd_lay (n : NdS) : n.do qLay = (⟨0, n.l.n, ⟨#[]⟩, n.l.p, n.l.mark, n.l.size, 0⟩, n) := rfl
theorem nd_chg (n : NdS) (q : Proj) : n.do (qChg q) = if mayB n.l q = true then (⟨0, 0, ⟨#[]⟩, q, 0, 0, 0⟩, { n with l := n.l.count q }) else (⟨48, 0, ⟨#[]⟩, n.l.p, 0, 0, 0⟩, n) := by
  unfold NdS.do
  rw [if_neg (show ¬ ((1 : Int) ≤ 10 ∧ (10 : Int) ≤ 5) by omega), if_neg (show ¬ ((6 : Int) ≤ 10 ∧ (10 : Int) ≤ 8) by omega), if_pos (show (9 : Int) ≤ 10 ∧ (10 : Int) ≤ 11 by omega)]
  unfold layDo
  rw [if_neg (show ¬ ((10 : Int) = 9) by omega), if_pos (show (10 : Int) = 10 from rfl)]
  by_cases h : mayB n.l q = true
  · rw [if_pos h, if_pos h]
  · rw [if_neg h, if_neg h]
theorem nd_start (n : NdS) (e t : Int) : n.do (qStart e t) = (⟨(ordStart n.o e t).1, 0, ⟨#[]⟩, Esch.p0, 0, 0, (ordStart n.o e t).2.epoch⟩, { n with o := (ordStart n.o e t).2 }) := rfl
def unSeal (u : UnS) (e : Int) : UnS := if u.down = true then u else if e < u.epoch then u else { u with epoch := e }
theorem nd_seal (n : NdS) (u : Nat) (hu : u < 16) (e : Int) : n.do (qSeal u e) =
    (⟨if (n.units u).down = true then 45 else if e < (n.units u).epoch then 40 else 0, if (n.units u).down = true then 0 else if e < (n.units u).epoch then 0 else (n.units u).pg.tail, ⟨#[]⟩, Esch.p0, 0, 0, if (n.units u).down = true then 0 else if e < (n.units u).epoch then (n.units u).epoch else e⟩,
      { n with units := fun j => if j = u then unSeal (n.units u) e else n.units j }) := by
  rw [nd_unit (q := qSeal u e) (i := u) ⟨by simp only; omega, by simp only; omega⟩ rfl hu]
  unfold UnS.do unSeal
  by_cases h : (n.units u).down = true
  · simp [h]
  · by_cases h2 : e < (n.units u).epoch
    · simp [h, h2]
    · simp [h, h2]
/-- what the sealed units told -/
def TOk (us : List Int) (P : Nat → PgS) (D : Nat → Bool) (t : List (Int × Int)) (k : Nat) : Prop := ∀ x, get t x = if x ∈ us.take k ∧ D x.toNat = false then some (P x.toNat).tail else none
def SealedTo (us : List Int) (D : Nat → Bool) (e : Int) (n : NdS) (k : Nat) : Prop := ∀ u ∈ us.take k, D u.toNat = false → (n.units u.toNat).epoch = e
structure ChPre (p q : Proj) (D : Nat → Bool) (E : Nat → Int) (L0 : LayS) (o0 : Ord) : Prop where
  hn : nextB p q = true
  hm : mayB L0 q = true
  lp : L0.p = p
  ee : ∀ i, i < 16 → E i ≤ q.epoch
  dn : ∀ u ∈ unitsOf p.chains.flatten, D u.toNat = true → u ∉ unitsOf q.chains.flatten
  oe : o0.epoch < q.epoch
abbrev usP (p : Proj) : List Int := unitsOf p.chains.flatten
/-- where a change is, and how the nodes are -/
def ChSt (p q : Proj) (P : Nat → PgS) (D : Nat → Bool) (L0 : LayS) (o0 : Ord) (n : NdS) (re : ReS) : Prop :=
  (re.at = 0 ∧ n.l = L0 ∧ n.o = o0 ∧ re.t = []) ∨
  (re.at = 1 ∧ re.p = p ∧ (∃ i : Nat, re.i = i ∧ i < (usP p).length ∧ SealedTo (usP p) D q.epoch n i ∧ TOk (usP p) P D re.t i) ∧ n.l = L0 ∧ n.o = o0) ∨
  (re.at = 2 ∧ re.p = p ∧ (n.l = L0 ∨ n.l = L0.count q) ∧ n.o = o0 ∧ SealedTo (usP p) D q.epoch n (usP p).length ∧ TOk (usP p) P D re.t (usP p).length) ∨
  (re.at = 3 ∧ re.p = p ∧ n.l = L0.count q ∧ (n.o = o0 ∨ n.o = ⟨q.epoch, true, tailP p re.t⟩) ∧ SealedTo (usP p) D q.epoch n (usP p).length ∧ TOk (usP p) P D re.t (usP p).length) ∨
  (re.at = 4 ∧ re.err = 0 ∧ re.p = p ∧ n.l = L0.count q ∧ n.o = ⟨q.epoch, true, tailP p re.t⟩ ∧ SealedTo (usP p) D q.epoch n (usP p).length ∧ TOk (usP p) P D re.t (usP p).length)
structure ChI (p q : Proj) (P : Nat → PgS) (D : Nat → Bool) (E : Nat → Int) (L0 : LayS) (o0 : Ord) (n : NdS) (re : ReS) : Prop where
  qq : re.q = q
  pg : ∀ i, i < 16 → (n.units i).pg = P i ∧ (n.units i).down = D i
  ep : ∀ i, i < 16 → (n.units i).epoch = E i ∨ (n.units i).epoch = q.epoch
  st : ChSt p q P D L0 o0 n re
theorem tailP_range {p : Proj} (t : List (Int × Int)) : 0 ≤ tailP p t ∧ tailP p t ≤ 16384 := by
  unfold tailP
  by_cases hg : goodB p = true
  · rw [if_pos hg]
    have h4 : p.chains.length ≤ 4 := (of_decide_eq_true (p := p.good) hg).2.2.2.1
    obtain ⟨h1, -⟩ := foldMax_ge (n := p.chains.length) (spotsP t p.chains p.chains.length) 0
    refine ⟨h1, ?_⟩
    rcases foldMax_is (n := p.chains.length) (spotsP t p.chains p.chains.length) 0 with h | ⟨x, hx, h⟩
    · show List.foldl _ _ _ ≤ _; rw [h]; omega
    · show List.foldl _ _ _ ≤ _
      rw [h]
      obtain ⟨a1, a2, a3, a4⟩ := spot_mem hx
      unfold spotV
      by_cases h0 : 0 < x.2
      · rw [if_pos h0]
        have := mul_le4 (y := x.2) (n := p.chains.length) (by omega) a4 (by omega) (by omega)
        have h5 : (x.2 - 1) * (p.chains.length : Int) ≤ 4095 * (p.chains.length : Int) := Int.mul_le_mul_of_nonneg_right (by omega) (by omega)
        omega
      · rw [if_neg h0]; omega
  · rw [if_neg hg]; omega
section
variable {p q : Proj} {P : Nat → PgS} {D : Nat → Bool} {E : Nat → Int} {L0 : LayS} {o0 : Ord} {n : NdS} {re : ReS}
theorem ChPre.good (h : ChPre p q D E L0 o0) : p.good ∧ q.good ∧ q.epoch = p.epoch + 1 := by
  have h1 : p.next q := of_decide_eq_true h.hn
  exact ⟨h1.1, h1.2.1, h1.2.2.1⟩
theorem usP_in (hg : p.good) {u : Int} (hu : u ∈ usP p) : 0 ≤ u ∧ u < 16 := by
  have := hg.2.2.2.2.2.1 u (mem_unitsOf.1 hu)
  omega
theorem next_self : nextB q q = false := by
  unfold nextB
  refine decide_eq_false (fun e => ?_)
  have := e.2.2.1
  omega
theorem count_again : mayB (L0.count q) q = false := by
  unfold mayB
  rw [show (L0.count q).p = q from rfl, next_self]
  rfl
theorem start_again (o : Ord) (e t : Int) (ht : 0 ≤ t ∧ t ≤ 16384) (ho : o.epoch < e) : ordStart o e t = (0, ⟨e, true, t⟩) ∧ ordStart ⟨e, true, t⟩ e t = (40, ⟨e, true, t⟩) := by
  unfold ordStart
  rw [if_neg (by omega), if_neg (by omega), if_pos (Int.le_refl e)]
  exact ⟨rfl, rfl⟩
/-- a unit is sealed -/
abbrev sealed (n : NdS) (u : Nat) (e : Int) : NdS := { n with units := fun j => if j = u then unSeal (n.units u) e else n.units j }
theorem ChI.le (h : ChI p q P D E L0 o0 n re) (hp : ChPre p q D E L0 o0) {i : Nat} (hi : i < 16) : ¬ q.epoch < (n.units i).epoch := by
  have := hp.ee i hi
  rcases h.ep i hi with e | e <;> omega
theorem sealed_epoch (h : ChI p q P D E L0 o0 n re) (hp : ChPre p q D E L0 o0) {u : Nat} (hu : u < 16) (i : Nat) :
    ((sealed n u q.epoch).units i).epoch = if i = u ∧ D u = false then q.epoch else (n.units i).epoch := by
  have hle := h.le hp hu
  have hd := (h.pg u hu).2
  show (if i = u then unSeal (n.units u) q.epoch else n.units i).epoch = _
  by_cases e : i = u
  · subst e
    rw [if_pos rfl]
    unfold unSeal
    by_cases hdu : D i = false
    · rw [if_neg (by rw [hd, hdu]; simp), if_neg hle, if_pos ⟨rfl, hdu⟩]
    · rw [if_pos (by rw [hd]; simpa using hdu), if_neg (fun e => hdu e.2)]
  · rw [if_neg e, if_neg (fun e' => e e'.1)]
theorem sealed_pg (n : NdS) (u : Nat) (e : Int) (i : Nat) : ((sealed n u e).units i).pg = (n.units i).pg ∧ ((sealed n u e).units i).down = (n.units i).down := by
  show (if i = u then unSeal (n.units u) e else n.units i).pg = _ ∧ (if i = u then unSeal (n.units u) e else n.units i).down = _
  by_cases h : i = u
  · subst h
    rw [if_pos rfl]
    unfold unSeal
    by_cases hd : (n.units i).down = true
    · rw [if_pos hd]; exact ⟨rfl, rfl⟩
    · rw [if_neg hd]
      by_cases h2 : e < (n.units i).epoch
      · rw [if_pos h2]; exact ⟨rfl, rfl⟩
      · rw [if_neg h2]; exact ⟨rfl, rfl⟩
  · rw [if_neg h]; exact ⟨rfl, rfl⟩
theorem SealedTo.seal (h : ChI p q P D E L0 o0 n re) (hp : ChPre p q D E L0 o0) {u : Nat} (hu : u < 16) {k : Nat} (hs : SealedTo (usP p) D q.epoch n k) : SealedTo (usP p) D q.epoch (sealed n u q.epoch) k := fun x hx hd => by
  rw [sealed_epoch h hp hu]
  by_cases e : x.toNat = u ∧ D u = false
  · rw [if_pos e]
  · rw [if_neg e]; exact hs x hx hd
/-- what is done at the layout, at a seal, at the change, at the start -/
theorem ChI.step (h : ChI p q P D E L0 o0 n re) (_hp : ChPre p q D E L0 o0) {n' : NdS} {re' : ReS} (hq : re'.q = q) (hpg : ∀ i, (n'.units i).pg = (n.units i).pg ∧ (n'.units i).down = (n.units i).down) (hep : ∀ i, (n'.units i).epoch = (n.units i).epoch ∨ (n'.units i).epoch = q.epoch) (hst : ChSt p q P D L0 o0 n' re') : ChI p q P D E L0 o0 n' re' :=
  ⟨hq, fun i hi => ⟨(hpg i).1.trans (h.pg i hi).1, (hpg i).2.trans (h.pg i hi).2⟩, fun i hi => by
    rcases hep i with e | e
    · rw [e]; exact h.ep i hi
    · exact Or.inr e, hst⟩
theorem take_succ_mem {l : List Int} {i : Nat} (hi : i < l.length) {x : Int} : x ∈ l.take (i + 1) ↔ x ∈ l.take i ∨ x = l.getD i 0 := by
  rw [List.take_add_one, List.getD_eq_getElem?_getD, List.getElem?_eq_getElem hi, List.mem_append, Option.toList_some, List.mem_singleton, Option.getD_some]
def chMu (p : Proj) (re : ReS) : Nat := if re.at = 4 then 0 else if re.at = 3 then 1 else if re.at = 2 then 2 else if re.at = 1 then (usP p).length - re.i.toNat + 2 else (usP p).length + 3
/-- the next unit has told, or is skipped -/
theorem ChSt.on {i : Nat} (hi : i < (usP p).length) (hr : re.p = p) (hri : re.i = i) (h1 : re.at = 1) {n' : NdS} {t' : List (Int × Int)} (hs : SealedTo (usP p) D q.epoch n' (i + 1)) (ht : TOk (usP p) P D t' (i + 1)) (hl : n'.l = L0) (ho : n'.o = o0) :
    ChSt p q P D L0 o0 n' ({ re with t := t' } : ReS).next ∧ chMu p ({ re with t := t' } : ReS).next < chMu p re := by
  have hus : (re.us : List Int) = usP p := by unfold ReS.us; rw [hr]
  have hm : chMu p re = (usP p).length - i + 2 := by
    unfold chMu
    rw [if_neg (by omega), if_neg (by omega), if_neg (by omega), if_pos h1, hri]
    rfl
  by_cases e : re.i + 1 = re.us.length
  · have hn : ({ re with t := t' } : ReS).next = ⟨re.q, re.p, 2, re.i + 1, t', re.err⟩ := by
      unfold ReS.next
      rw [if_pos (show ({ re with t := t' } : ReS).i + 1 = (({ re with t := t' } : ReS).us.length : Int) from e)]
    have hk : i + 1 = (usP p).length := by rw [hus, hri] at e; omega
    rw [hn, hm]
    refine ⟨Or.inr (Or.inr (Or.inl ⟨rfl, hr, Or.inl hl, ho, hk ▸ hs, hk ▸ ht⟩)), ?_⟩
    show (2 : Nat) < _
    omega
  · have hn : ({ re with t := t' } : ReS).next = ⟨re.q, re.p, re.at, re.i + 1, t', re.err⟩ := by
      unfold ReS.next
      rw [if_neg (show ¬ ({ re with t := t' } : ReS).i + 1 = (({ re with t := t' } : ReS).us.length : Int) from e)]
    have hk : i + 1 < (usP p).length := by rw [hus, hri] at e; omega
    rw [hn, hm]
    refine ⟨Or.inr (Or.inl ⟨h1, hr, ⟨i + 1, by show re.i + 1 = _; rw [hri]; omega, hk, hs, ht⟩, hl, ho⟩), ?_⟩
    show (if re.at = 4 then 0 else if re.at = 3 then 1 else if re.at = 2 then 2 else if re.at = 1 then (usP p).length - (re.i + 1).toNat + 2 else (usP p).length + 3) < _
    rw [if_neg (by omega), if_neg (by omega), if_neg (by omega), if_pos h1, hri]
    omega
theorem TOk.put {t : List (Int × Int)} {i : Nat} (hi : i < (usP p).length) (h : TOk (usP p) P D t i) (hd : D ((usP p).getD i 0).toNat = false) : TOk (usP p) P D (Esch.set t ((usP p).getD i 0) (P ((usP p).getD i 0).toNat).tail) (i + 1) := fun x => by
  rw [get_set]
  by_cases e : (usP p).getD i 0 = x
  · rw [if_pos e]
    subst e
    rw [if_pos ⟨(take_succ_mem hi).2 (Or.inr rfl), hd⟩]
  · rw [if_neg e, h x]
    have : (x ∈ (usP p).take (i + 1) ∧ D x.toNat = false) ↔ (x ∈ (usP p).take i ∧ D x.toNat = false) := by
      rw [take_succ_mem hi]
      exact ⟨fun ⟨a, b⟩ => ⟨a.resolve_right (fun e' => e e'.symm), b⟩, fun ⟨a, b⟩ => ⟨Or.inl a, b⟩⟩
    simp only [this]
theorem TOk.skip {t : List (Int × Int)} {i : Nat} (hi : i < (usP p).length) (h : TOk (usP p) P D t i) (hd : D ((usP p).getD i 0).toNat = true) : TOk (usP p) P D t (i + 1) := fun x => by
  rw [h x]
  have : (x ∈ (usP p).take (i + 1) ∧ D x.toNat = false) ↔ (x ∈ (usP p).take i ∧ D x.toNat = false) := by
    rw [take_succ_mem hi]
    refine ⟨fun ⟨a, b⟩ => ⟨a.resolve_right (fun e' => ?_), b⟩, fun ⟨a, b⟩ => ⟨Or.inl a, b⟩⟩
    subst e'
    rw [hd] at b
    cases b
  simp only [this]
theorem SealedTo.on {i : Nat} (hi : i < (usP p).length) {n' : NdS} (hs : SealedTo (usP p) D q.epoch n' i) (hu : D ((usP p).getD i 0).toNat = false → (n'.units ((usP p).getD i 0).toNat).epoch = q.epoch) : SealedTo (usP p) D q.epoch n' (i + 1) := fun x hx hd => by
  rcases (take_succ_mem hi).1 hx with e | e
  · exact hs x e hd
  · subst e; exact hu hd
/-- what is done of a question of its, and what it comes to -/
theorem ChI.both (h : ChI p q P D E L0 o0 n re) (hp : ChPre p q D E L0 o0) (h4 : re.at ≠ 4) : ChI p q P D E L0 o0 (n.do re.ask.1).2 re ∧
    ChI p q P D E L0 o0 (n.do re.ask.1).2 (if (n.do re.ask.1).1.code = 45 then re.skip else re.hear (n.do re.ask.1).1 true) ∧
    chMu p (if (n.do re.ask.1).1.code = 45 then re.skip else re.hear (n.do re.ask.1).1 true) < chMu p re ∧ ((∀ i, D i = false) → (n.do re.ask.1).1.code ≠ 45) := by
  obtain ⟨hpg, hqg, hqe⟩ := hp.good
  have hst := h.st
  have hq := h.qq
  rcases hst with ⟨e, hl, ho, ht⟩ | ⟨e, hr, ⟨i, hri, hi, hs, ht⟩, hl, ho⟩ | ⟨e, hr, hl, ho, hs, ht⟩ | ⟨e, hr, hl, ho, hs, ht⟩ | ⟨e, -⟩
  · have ha : re.ask.1 = qLay := by unfold ReS.ask; rw [if_neg h4, if_pos e]
    rw [ha, nd_lay]
    have hh : re.hear ⟨0, n.l.n, ⟨#[]⟩, n.l.p, n.l.mark, n.l.size, 0⟩ true = { re with p := p, «at» := 1, i := 0 } := by
      unfold ReS.hear
      rw [if_neg (by simp [e]), if_pos e, if_neg (by simp), if_pos (by show nextB n.l.p re.q = true; rw [hl, hp.lp, hq]; exact hp.hn)]
      show ({ re with p := n.l.p, «at» := 1, i := 0 } : ReS) = _
      rw [hl, hp.lp]
    rw [if_neg (by simp), hh]
    refine ⟨h, h.step hp hq (fun i => ⟨rfl, rfl⟩) (fun i => Or.inl rfl) (Or.inr (Or.inl ⟨rfl, rfl, ⟨0, rfl, ?_, fun u hu => by simp at hu, fun x => by rw [show ({ re with p := p, «at» := 1, i := 0 } : ReS).t = [] from ht]; simp [Esch.get]⟩, hl, ho⟩)), ?_, fun _ => by simp⟩
    · have := (us_le (decide_eq_true hpg : goodB p = true)).1; exact this
    · rw [show chMu p ({ re with p := p, «at» := 1, i := 0 } : ReS) = (usP p).length + 2 from rfl]
      unfold chMu
      rw [if_neg h4, if_neg (by omega), if_neg (by omega), if_neg (by omega)]
      omega
  · have hus : (re.us : List Int) = usP p := by unfold ReS.us; rw [hr]
    obtain ⟨x, hx⟩ : ∃ x, x = (usP p).getD i 0 := ⟨_, rfl⟩
    have hxm : x ∈ usP p := by rw [hx, List.getD_eq_getElem?_getD, List.getElem?_eq_getElem hi]; exact List.getElem_mem hi
    obtain ⟨hx0, hx1⟩ := usP_in hpg hxm
    obtain ⟨u, rfl⟩ : ∃ u : Nat, x = u := ⟨x.toNat, by omega⟩
    have hu : u < 16 := by omega
    have ha : re.ask.1 = qSeal u q.epoch := by
      unfold ReS.ask
      rw [if_neg h4, if_neg (by omega), if_pos e, hus, hri, hq]
      show QS.mk 5 ((usP p).getD (i : Int).toNat 0) q.epoch 0 0 0 ⟨#[]⟩ Esch.p0 = _
      rw [Int.toNat_natCast, ← hx]
    have hle := h.le hp hu
    have hd := (h.pg u hu).2
    have hgu := (h.pg u hu).1
    have hI : ChI p q P D E L0 o0 (sealed n u q.epoch) re := h.step hp hq (fun j => sealed_pg n u q.epoch j) (fun j => by
      rw [sealed_epoch h hp hu]
      by_cases e : j = u ∧ D u = false
      · rw [if_pos e]; exact Or.inr rfl
      · rw [if_neg e]; exact Or.inl rfl) (Or.inr (Or.inl ⟨e, hr, ⟨i, hri, hi, hs.seal h hp hu, ht⟩, hl, ho⟩))
    have hxu : ((u : Int)).toNat = u := by simp
    have hs' : SealedTo (usP p) D q.epoch (sealed n u q.epoch) (i + 1) := SealedTo.on hi (hs.seal h hp hu) (fun hd' => by
      rw [← hx, hxu] at hd' ⊢
      rw [sealed_epoch h hp hu, if_pos ⟨rfl, hd'⟩])
    rw [ha, nd_seal n u hu]
    by_cases hdu : D u = true
    · simp only [hd, hdu, if_true]
      have hsk : re.skip = ({ re with t := re.t } : ReS).next := by
        unfold ReS.skip
        rw [if_pos]
        unfold ReS.skipB
        rw [hus, hri, hq, e]
        have hnm := hp.dn u hxm (by rw [hxu]; exact hdu)
        simp only [Int.toNat_natCast, ← hx, decide_true, Bool.true_and, Bool.not_eq_true', decide_eq_false_iff_not]
        exact hnm
      have hon := ChSt.on (q := q) (P := P) (D := D) (L0 := L0) (o0 := o0) hi hr hri e hs' (TOk.skip hi ht (by rw [← hx, hxu]; exact hdu)) hl ho
      rw [hsk]
      refine ⟨hI, hI.step hp (by show ({ re with t := re.t } : ReS).next.q = q; unfold ReS.next; exact hq) (fun _ => ⟨rfl, rfl⟩) (fun _ => Or.inl rfl) hon.1, hon.2, fun hall => ?_⟩
      rw [hall u] at hdu; cases hdu
    · have hdf : D u = false := by simpa using hdu
      simp only [hd, hdf, Bool.false_eq_true, if_false, hle]
      have hh : ∀ (a : ByteArray) (b : Proj) (c d f : Int), re.hear ⟨0, (n.units u).pg.tail, a, b, c, d, f⟩ true = ({ re with t := Esch.set re.t ((usP p).getD i 0) (P ((usP p).getD i 0).toNat).tail } : ReS).next := fun a b c d f => by
        unfold ReS.hear
        rw [if_neg (by simp [e]), if_neg (by omega), if_pos e, if_neg (by simp), hus, hri, Int.toNat_natCast, ← hx, hxu, hgu]
      have hon := ChSt.on (q := q) (P := P) (D := D) (L0 := L0) (o0 := o0) hi hr hri e hs' (TOk.put hi ht (by rw [← hx, hxu]; exact hdf)) hl ho
      rw [if_neg (by omega), hh]
      exact ⟨hI, hI.step hp (by show ReS.q (ReS.next _) = q; unfold ReS.next; exact hq) (fun _ => ⟨rfl, rfl⟩) (fun _ => Or.inl rfl) hon.1, hon.2, fun _ => by omega⟩
  · have ha : re.ask.1 = qChg q := by unfold ReS.ask; rw [if_neg h4, if_neg (by omega), if_neg (by omega), if_pos e, hq]
    have hmu : chMu p re = 2 := by unfold chMu; rw [if_neg h4, if_neg (by omega), if_pos e]
    rw [ha, nd_chg]
    have key : ∀ (n' : NdS) (x : AnS), n'.units = n.units → n'.l = L0.count q → n'.o = o0 → (x.code = 0 ∨ (x.code = 48 ∧ x.p = q)) →
        ChI p q P D E L0 o0 n' re ∧ ChI p q P D E L0 o0 n' (if x.code = 45 then re.skip else re.hear x true) ∧ chMu p (if x.code = 45 then re.skip else re.hear x true) < chMu p re ∧ ((∀ i, D i = false) → x.code ≠ 45) := by
      intro n' x hu hl' ho' hx
      have hS : ∀ k, SealedTo (usP p) D q.epoch n k → SealedTo (usP p) D q.epoch n' k := fun k hk y hy hd => by rw [hu]; exact hk y hy hd
      have hh : re.hear x true = { re with «at» := 3 } := by
        unfold ReS.hear
        rw [if_neg (by simp [e]; omega), if_neg (by omega), if_neg (by omega), if_pos e, if_pos (by rw [hq]; exact hx)]
      rw [if_neg (by omega), hh]
      refine ⟨h.step hp hq (fun i => by rw [hu]; exact ⟨rfl, rfl⟩) (fun i => by rw [hu]; exact Or.inl rfl) (Or.inr (Or.inr (Or.inl ⟨e, hr, Or.inr hl', ho', hS _ hs, ht⟩))), h.step hp hq (fun i => by rw [hu]; exact ⟨rfl, rfl⟩) (fun i => by rw [hu]; exact Or.inl rfl) (Or.inr (Or.inr (Or.inr (Or.inl ⟨rfl, hr, hl', Or.inl ho', hS _ hs, ht⟩)))), ?_, fun _ => by omega⟩
      rw [hmu]
      unfold chMu
      simp
    rcases hl with hl | hl
    · rw [hl, if_pos hp.hm]
      exact key _ _ rfl rfl ho (Or.inl rfl)
    · rw [hl, count_again, if_neg (by simp)]
      exact key n _ rfl hl ho (Or.inr ⟨rfl, rfl⟩)
  · have ha : re.ask.1 = qStart q.epoch (tailP p re.t) := by unfold ReS.ask; rw [if_neg h4, if_neg (by omega), if_neg (by omega), if_neg (by omega), hq, hr]
    have hmu : chMu p re = 1 := by unfold chMu; rw [if_neg h4, if_pos e]
    have htr := tailP_range (p := p) re.t
    obtain ⟨hs1, hs2⟩ := start_again o0 q.epoch (tailP p re.t) htr hp.oe
    rw [ha, nd_start]
    have key : ∀ (n' : NdS) (x : AnS), n'.units = n.units → n'.l = L0.count q → n'.o = ⟨q.epoch, true, tailP p re.t⟩ → (x.code = 0 ∨ (x.code = 40 ∧ x.epoch = q.epoch)) →
        ChI p q P D E L0 o0 n' re ∧ ChI p q P D E L0 o0 n' (if x.code = 45 then re.skip else re.hear x true) ∧ chMu p (if x.code = 45 then re.skip else re.hear x true) < chMu p re ∧ ((∀ i, D i = false) → x.code ≠ 45) := by
      intro n' x hu hl' ho' hx
      have hS : ∀ k, SealedTo (usP p) D q.epoch n k → SealedTo (usP p) D q.epoch n' k := fun k hk y hy hd => by rw [hu]; exact hk y hy hd
      have hh : re.hear x true = re.endd 0 := by
        unfold ReS.hear
        rw [if_neg (by simp [e]; omega), if_neg (by omega), if_neg (by omega), if_neg (by omega)]
        by_cases h40 : x.code = 40 ∧ x.epoch = re.q.epoch
        · rw [if_pos h40]
        · rw [if_neg h40, hx.resolve_right (fun h' => h40 ⟨h'.1, by rw [hq]; exact h'.2⟩)]
      rw [if_neg (by omega), hh]
      refine ⟨h.step hp hq (fun i => by rw [hu]; exact ⟨rfl, rfl⟩) (fun i => by rw [hu]; exact Or.inl rfl) (Or.inr (Or.inr (Or.inr (Or.inl ⟨e, hr, hl', Or.inr ho', hS _ hs, ht⟩)))), h.step hp hq (fun i => by rw [hu]; exact ⟨rfl, rfl⟩) (fun i => by rw [hu]; exact Or.inl rfl) (Or.inr (Or.inr (Or.inr (Or.inr ⟨rfl, rfl, hr, hl', ho', hS _ hs, ht⟩)))), ?_, fun _ => by omega⟩
      rw [hmu]
      unfold chMu ReS.endd
      simp
    rcases ho with ho | ho
    · refine key _ _ rfl hl ?_ (Or.inl ?_)
      · show (ordStart n.o q.epoch (tailP p re.t)).2 = _
        rw [ho, hs1]
      · show (ordStart n.o q.epoch (tailP p re.t)).1 = 0
        rw [ho, hs1]
    · refine key _ _ rfl hl ?_ (Or.inr ⟨?_, ?_⟩)
      · show (ordStart n.o q.epoch (tailP p re.t)).2 = _
        rw [ho, hs2]
      · show (ordStart n.o q.epoch (tailP p re.t)).1 = 40
        rw [ho, hs2]
      · show (ordStart n.o q.epoch (tailP p re.t)).2.epoch = q.epoch
        rw [ho, hs2]
  · exact absurd e h4
/-- a round, whatever becomes of its question -/
theorem ChI.turn {s : HdS × ReS} (h : ChI p q P D E L0 o0 s.1.nd s.2) (hp : ChPre p q D E L0 o0) (f : Int) : ChI p q P D E L0 o0 (chTurn s f).1.nd (chTurn s f).2 ∧ chMu p (chTurn s f).2 ≤ chMu p s.2 ∧ (f = 0 → s.2.at ≠ 4 → chMu p (chTurn s f).2 < chMu p s.2) := by
  unfold chTurn
  by_cases h4 : s.2.at = 4
  · rw [if_pos h4]
    exact ⟨h, Nat.le_refl _, fun _ h' => absurd h4 h'⟩
  rw [if_neg h4]
  obtain ⟨h1, h2, h3, -⟩ := h.both hp h4
  have hl : ∀ x : AnS, s.2.hear x false = s.2 := fun x => by unfold ReS.hear; rw [if_pos (Or.inr (Or.inl rfl))]
  unfold HdS.ask
  by_cases f0 : f = 0
  · simp only [f0, if_true, true_and]
    exact ⟨h2, Nat.le_of_lt h3, fun _ _ => h3⟩
  simp only [f0, if_false]
  by_cases f2 : f = 2
  · simp only [f2, if_true, Bool.false_eq_true, false_and, if_false, hl]
    exact ⟨h1, Nat.le_refl _, fun e => e.elim⟩
  simp only [f2, if_false]
  by_cases f3 : f = 3 ∧ s.1.held.length < 64
  · simp only [f3, if_true, Bool.false_eq_true, false_and, if_false, hl, and_self]
    exact ⟨h, Nat.le_refl _, fun e => e.elim⟩
  · rw [if_neg f3]
    simp only [Bool.false_eq_true, false_and, if_false, hl]
    exact ⟨h, Nat.le_refl _, fun e => e.elim⟩
end
section
variable {p q : Proj} {P : Nat → PgS} {D : Nat → Bool} {E : Nat → Int} {L0 : LayS} {o0 : Ord}
theorem ChI.start {n : NdS} (hp : ChPre p q D E L0 o0) (hpg : ∀ i, i < 16 → (n.units i).pg = P i ∧ (n.units i).down = D i) (hep : ∀ i, i < 16 → (n.units i).epoch = E i) (hl : n.l = L0) (ho : n.o = o0) : ChI p q P D E L0 o0 n (re0 q) := by
  have hg : goodB q = true := decide_eq_true hp.good.2.1
  have : re0 q = ⟨q, Esch.p0, 0, 0, [], 0⟩ := by unfold re0; rw [if_neg (by rw [hg]; simp)]
  rw [this]
  exact ⟨rfl, hpg, fun i hi => Or.inl (hep i hi), Or.inl ⟨rfl, hl, ho, rfl⟩⟩
theorem stC_inv {hd : HdS} (hp : ChPre p q D E L0 o0) (h : ChI p q P D E L0 o0 hd.nd (re0 q)) (fates : List Int) : ∀ k, ChI p q P D E L0 o0 (stC hd q fates k).1.nd (stC hd q fates k).2 ∧ chMu p (stC hd q fates k).2 ≤ (usP p).length + 3
  | 0 => ⟨h, by
    show chMu p (re0 q) ≤ _
    unfold chMu
    repeat' split
    all_goals omega⟩
  | k + 1 => by
    obtain ⟨h1, h2⟩ := stC_inv hp h fates k
    obtain ⟨g1, g2, -⟩ := h1.turn hp (fateF fates k)
    exact ⟨g1, by show chMu p (chTurn _ _).2 ≤ _; omega⟩
theorem chMu_zero {re : ReS} (h : chMu p re = 0) : re.at = 4 := by
  unfold chMu at h
  by_cases h4 : re.at = 4
  · exact h4
  rw [if_neg h4] at h
  by_cases h3 : re.at = 3
  · rw [if_pos h3] at h; omega
  rw [if_neg h3] at h
  by_cases h2 : re.at = 2
  · rw [if_pos h2] at h; omega
  rw [if_neg h2] at h
  by_cases h1 : re.at = 1
  · rw [if_pos h1] at h; omega
  · rw [if_neg h1] at h; omega
theorem stC_mu {hd : HdS} (hp : ChPre p q D E L0 o0) (h : ChI p q P D E L0 o0 hd.nd (re0 q)) (fates : List Int) : ∀ j, chMu p (stC hd q fates (fates.length + j)).2 ≤ (usP p).length + 3 - j
  | 0 => by have := (stC_inv hp h fates (fates.length + 0)).2; omega
  | j + 1 => by
    have h1 := stC_mu hp h fates j
    have h2 := (stC_inv hp h fates (fates.length + j)).1
    have hf : fateF fates (fates.length + j) = 0 := by unfold fateF; rw [if_neg (by omega)]
    obtain ⟨-, g2, g3⟩ := h2.turn hp (fateF fates (fates.length + j))
    show chMu p (chTurn (stC hd q fates (fates.length + j)) (fateF fates (fates.length + j))).2 ≤ _
    by_cases h4 : (stC hd q fates (fates.length + j)).2.at = 4
    · have : chMu p (stC hd q fates (fates.length + j)).2 = 0 := by unfold chMu; rw [if_pos h4]
      omega
    · have := g3 hf h4
      omega
/-- a change that is heard in the end ends well -/
structure ChEnd (p q : Proj) (P : Nat → PgS) (D : Nat → Bool) (E : Nat → Int) (L0 : LayS) (n : NdS) (re : ReS) : Prop where
  fin : re.at = 4 ∧ re.overE = 0
  lay : n.l = L0.count q
  pg : ∀ i, i < 16 → (n.units i).pg = P i ∧ (n.units i).down = D i
  ep : ∀ i, i < 16 → (n.units i).epoch = E i ∨ (n.units i).epoch = q.epoch
  sl : ∀ u ∈ usP p, D u.toNat = false → (n.units u.toNat).epoch = q.epoch
  ord : ∃ t, n.o = ⟨q.epoch, true, tailP p t⟩ ∧ ∀ x, get t x = if x ∈ usP p ∧ D x.toNat = false then some (P x.toNat).tail else none
theorem stC_end {hd : HdS} (hp : ChPre p q D E L0 o0) (h : ChI p q P D E L0 o0 hd.nd (re0 q)) (fates : List Int) : ChEnd p q P D E L0 (stC hd q fates (fates.length + 60)).1.nd (stC hd q fates (fates.length + 60)).2 := by
  have hm := stC_mu hp h fates 60
  have hN := (us_le (decide_eq_true hp.good.1 : goodB p = true)).2
  have h4 := chMu_zero (p := p) (re := (stC hd q fates (fates.length + 60)).2) (by have : (usP p).length ≤ 16 := hN; omega)
  obtain ⟨hI, -⟩ := stC_inv hp h fates (fates.length + 60)
  rcases hI.st with ⟨e, -⟩ | ⟨e, -⟩ | ⟨e, -⟩ | ⟨e, -⟩ | ⟨e, he, hr, hl, ho, hs, ht⟩
  · omega
  · omega
  · omega
  · omega
  · refine ⟨⟨e, by unfold ReS.overE; rw [if_pos e, he]⟩, hl, hI.pg, hI.ep, fun u hu hd => hs u (by rw [List.take_length]; exact hu) hd, ⟨_, ho, fun x => ?_⟩⟩
    rw [ht x, List.take_length]
end
end Go.Proofs.YtghdhhbpbmhooaaGreat
