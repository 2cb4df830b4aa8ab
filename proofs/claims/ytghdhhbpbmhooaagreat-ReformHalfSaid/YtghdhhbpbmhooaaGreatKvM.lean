/- nodes behind a change: what a fetch, an append, a tail come to whose questions are all heard; plain Lean -/
import Derived.Test.YtghdhhbpbmhooaaGreatChOk
import Derived.Test.YtghdhhbpbmhooaaGreatKvP
import Derived.Test.YtghdhhbpbmhooaaGreatRe7
namespace Go.Proofs.YtghdhhbpbmhooaaGreat
open Go.RowKit Esch

/-- units with epochs E, down where D; M: what lies where; the sequencer's epoch e and tail t; the layout L -/
structure Kv (n : NdS) (R c : Nat) (M : Pgs) (E : Nat → Int) (D : Nat → Bool) (e t : Int) (L : LayS) : Prop where
  un : ∀ u, u < 16 → PgW (n.units u).pg R c ∧ (∀ a, pval (n.units u).pg a = M u a) ∧ (n.units u).epoch = E u ∧ (n.units u).down = D u
  o : n.o = ⟨e, true, t⟩
  l : n.l = L
section
variable {n : NdS} {R c : Nat} {M : Pgs} {E : Nat → Int} {D : Nat → Bool} {e t : Int} {L : LayS}
theorem Kv.mono (h : Kv n R c M E D e t L) {c' : Nat} (hc : c ≤ c') : Kv n R c' M E D e t L := ⟨fun u hu => ⟨(h.un u hu).1.mono hc, (h.un u hu).2⟩, h.o, h.l⟩
theorem Kv.upd (h : Kv n R c M E D e t L) (u : Nat) {U : UnS} {M' : Pgs} {c' : Nat} (hc : c ≤ c') (hU : PgW U.pg R c') (hM : ∀ a, pval U.pg a = M' u a) (hM' : ∀ j a, j ≠ u → M' j a = M j a) (hE : U.epoch = E u) (hD : U.down = D u) : Kv { n with units := fun j => if j = u then U else n.units j } R c' M' E D e t L := by
  refine ⟨fun j hj => ?_, h.o, h.l⟩
  by_cases g : j = u
  · subst g
    simp only [if_true]
    exact ⟨hU, hM, hE, hD⟩
  · simp only [if_neg g]
    exact ⟨(h.un j hj).1.mono hc, fun a => by rw [hM' j a g]; exact (h.un j hj).2.1 a, (h.un j hj).2.2⟩
theorem Kv.same (h : Kv n R c M E D e t L) {u : Nat} (hu : u < 16) : Kv { n with units := fun j => if j = u then n.units u else n.units j } R c M E D e t L :=
  h.upd u (Nat.le_refl _) (h.un u hu).1 (h.un u hu).2.1 (fun _ _ _ => rfl) (h.un u hu).2.2.1 (h.un u hu).2.2.2
theorem un_write {U : UnS} (hd : U.down = false) {ep : Int} (he : U.epoch ≤ ep) (a : Int) (d : ByteArray) : U.do 1 ep a d = (((U.pg.write a d).1, 0, ⟨#[]⟩, U.epoch), { U with pg := (U.pg.write a d).2 }) := by
  unfold UnS.do
  rw [hd, if_neg (by simp), if_neg (by omega), if_neg (by omega), if_pos rfl]
theorem un_fill {U : UnS} (hd : U.down = false) {ep : Int} (he : U.epoch ≤ ep) (a : Int) (d : ByteArray) : U.do 2 ep a d = (((U.pg.fill a).1, 0, ⟨#[]⟩, U.epoch), { U with pg := (U.pg.fill a).2 }) := by
  unfold UnS.do
  rw [hd, if_neg (by simp), if_neg (by omega), if_neg (by omega), if_neg (by omega), if_pos rfl]
theorem un_read {U : UnS} (hd : U.down = false) {ep : Int} (he : U.epoch ≤ ep) (a : Int) (d : ByteArray) : U.do 3 ep a d = (((U.pg.read a).2, 0, (U.pg.read a).1, U.epoch), U) := by
  unfold UnS.do
  rw [hd, if_neg (by simp), if_neg (by omega), if_neg (by omega), if_neg (by omega), if_neg (by omega), if_pos rfl]
theorem un_low {U : UnS} (hd : U.down = false) {ep k : Int} (hk : 1 ≤ k ∧ k ≤ 5) (he : ep < U.epoch) (a : Int) (d : ByteArray) : U.do k ep a d = ((40, 0, ⟨#[]⟩, U.epoch), U) := by
  unfold UnS.do
  rw [hd, if_neg (by simp), if_neg (by omega), if_pos he]
section
variable (h : Kv n R c M E D e t L) (u : Nat) (hu : u < 16) (ep : Int) (a : Int)
include h hu
theorem Kv.write_new (hD : D u = false) (hE : E u ≤ ep) (ha : inB a = true) (d : ByteArray) (hd : d.size ≤ 4096) (hc : c < R) (hM : M u a = none) : (n.do ⟨1, u, ep, a, 0, 0, d, Esch.p0⟩).1.code = 0 ∧ Kv (n.do ⟨1, u, ep, a, 0, 0, d, Esch.p0⟩).2 R (c + 1) (setPg M u a (1, d)) E D e t L := by
  obtain ⟨h1, h2, h3, h4⟩ := h.un u hu
  have hv : pval (n.units u).pg a = none := (h2 a).trans hM
  obtain ⟨p1, p2, p3⟩ := h1.put hc hv (Or.inl rfl) d
  rw [nd_unit (i := u) ⟨by simp only; omega, by simp only; omega⟩ rfl hu, un_write (h4.trans hD) (by rw [h3]; exact hE), h1.write ha hd, hv]
  refine ⟨p1, h.upd u (by omega) p2 (fun b => ?_) (fun j b hj => ?_) h3 h4⟩
  · show pval ((n.units u).pg.put a (1, d)).2 b = _
    rw [p3 b]
    unfold setPg
    by_cases g : b = a
    · rw [if_pos g, if_pos ⟨rfl, g⟩]
    · rw [if_neg g, if_neg (fun x => g x.2)]; exact h2 b
  · unfold setPg; rw [if_neg (fun x => hj x.1)]
theorem Kv.write_old (hD : D u = false) (hE : E u ≤ ep) (ha : inB a = true) (d : ByteArray) (hd : d.size ≤ 4096) {v : Int × ByteArray} (hM : M u a = some v) : (n.do ⟨1, u, ep, a, 0, 0, d, Esch.p0⟩).1.code = 41 ∧ Kv (n.do ⟨1, u, ep, a, 0, 0, d, Esch.p0⟩).2 R c M E D e t L := by
  obtain ⟨h1, h2, h3, h4⟩ := h.un u hu
  have hv : pval (n.units u).pg a = some v := (h2 a).trans hM
  rw [nd_unit (i := u) ⟨by simp only; omega, by simp only; omega⟩ rfl hu, un_write (h4.trans hD) (by rw [h3]; exact hE), h1.write ha hd, hv]
  exact ⟨rfl, h.same hu⟩
theorem Kv.read (hD : D u = false) (hE : E u ≤ ep) (ha : inB a = true) : (n.do ⟨3, u, ep, a, 0, 0, ⟨#[]⟩, Esch.p0⟩).1.code = (match M u a with | none => 42 | some v => if v.1 = 2 then 46 else 0) ∧ (∀ v, M u a = some v → v.1 ≠ 2 → (n.do ⟨3, u, ep, a, 0, 0, ⟨#[]⟩, Esch.p0⟩).1.data = v.2) ∧ Kv (n.do ⟨3, u, ep, a, 0, 0, ⟨#[]⟩, Esch.p0⟩).2 R c M E D e t L := by
  obtain ⟨h1, h2, h3, h4⟩ := h.un u hu
  rw [nd_unit (i := u) ⟨by simp only; omega, by simp only; omega⟩ rfl hu, un_read (h4.trans hD) (by rw [h3]; exact hE), h1.read ha, h2 a]
  refine ⟨?_, fun v hv h2 => ?_, h.same hu⟩
  · cases M u a with
    | none => rfl
    | some v =>
      by_cases g : v.1 = 2
      · simp only [if_pos g]
      · simp only [if_neg g]
  · rw [hv]
    simp only [if_neg h2]
theorem Kv.fill_new (hD : D u = false) (hE : E u ≤ ep) (ha : inB a = true) (hc : c < R) (hM : M u a = none) : (n.do ⟨2, u, ep, a, 0, 0, ⟨#[]⟩, Esch.p0⟩).1.code = 0 ∧ Kv (n.do ⟨2, u, ep, a, 0, 0, ⟨#[]⟩, Esch.p0⟩).2 R (c + 1) (setPg M u a (2, ⟨#[]⟩)) E D e t L := by
  obtain ⟨h1, h2, h3, h4⟩ := h.un u hu
  have hv : pval (n.units u).pg a = none := (h2 a).trans hM
  obtain ⟨p1, p2, p3⟩ := h1.put hc hv (Or.inr rfl) ⟨#[]⟩
  rw [nd_unit (i := u) ⟨by simp only; omega, by simp only; omega⟩ rfl hu, un_fill (h4.trans hD) (by rw [h3]; exact hE), h1.fill ha, hv]
  refine ⟨p1, h.upd u (by omega) p2 (fun b => ?_) (fun j b hj => ?_) h3 h4⟩
  · show pval ((n.units u).pg.put a (2, ⟨#[]⟩)).2 b = _
    rw [p3 b]
    unfold setPg
    by_cases g : b = a
    · rw [if_pos g, if_pos ⟨rfl, g⟩]
    · rw [if_neg g, if_neg (fun x => g x.2)]; exact h2 b
  · unfold setPg; rw [if_neg (fun x => hj x.1)]
theorem Kv.fill_old (hD : D u = false) (hE : E u ≤ ep) (ha : inB a = true) {v : Int × ByteArray} (hM : M u a = some v) : (n.do ⟨2, u, ep, a, 0, 0, ⟨#[]⟩, Esch.p0⟩).1.code = (if v.1 = 2 then 0 else 41) ∧ Kv (n.do ⟨2, u, ep, a, 0, 0, ⟨#[]⟩, Esch.p0⟩).2 R c M E D e t L := by
  obtain ⟨h1, h2, h3, h4⟩ := h.un u hu
  have hv : pval (n.units u).pg a = some v := (h2 a).trans hM
  rw [nd_unit (i := u) ⟨by simp only; omega, by simp only; omega⟩ rfl hu, un_fill (h4.trans hD) (by rw [h3]; exact hE), h1.fill ha, hv]
  exact ⟨rfl, h.same hu⟩
theorem Kv.low (hD : D u = false) (hE : ep < E u) {k : Int} (hk : 1 ≤ k ∧ k ≤ 5) (d : ByteArray) : (n.do ⟨k, u, ep, a, 0, 0, d, Esch.p0⟩).1.code = 40 ∧ Kv (n.do ⟨k, u, ep, a, 0, 0, d, Esch.p0⟩).2 R c M E D e t L := by
  obtain ⟨h1, h2, h3, h4⟩ := h.un u hu
  rw [nd_unit (i := u) hk rfl hu, un_low (h4.trans hD) hk (by rw [h3]; exact hE)]
  exact ⟨rfl, h.same hu⟩
end
theorem Kv.lay (h : Kv n R c M E D e t L) : (n.do qLay).1.code = 0 ∧ (n.do qLay).1.p = L.p ∧ (n.do qLay).2 = n := by
  rw [nd_lay]
  exact ⟨rfl, by rw [h.l], rfl⟩
theorem Kv.tok_low (h : Kv n R c M E D e t L) {k ep : Int} (hk : k = 6 ∨ k = 7) (he : ep ≠ e) : (n.do ⟨k, 0, ep, 0, 0, 0, ⟨#[]⟩, Esch.p0⟩).1.code = 40 ∧ Kv (n.do ⟨k, 0, ep, 0, 0, 0, ⟨#[]⟩, Esch.p0⟩).2 R c M E D e t L := by
  have e1 : ordDo n.o k ep 0 = (40, 0, n.o) := by
    unfold ordDo ordTold
    rw [if_neg (by omega), if_pos hk, if_pos (by rw [h.o]; exact he)]
  unfold NdS.do
  rw [if_neg (by simp only; omega), if_pos (by simp only; omega)]
  simp only [e1]
  exact ⟨trivial, h.un, h.o, h.l⟩
theorem Kv.tok (h : Kv n R c M E D e t L) (ht : t ≠ 16384) : (n.do ⟨6, 0, e, 0, 0, 0, ⟨#[]⟩, Esch.p0⟩).1.code = 0 ∧ (n.do ⟨6, 0, e, 0, 0, 0, ⟨#[]⟩, Esch.p0⟩).1.n = t ∧ Kv (n.do ⟨6, 0, e, 0, 0, 0, ⟨#[]⟩, Esch.p0⟩).2 R c M E D e (t + 1) L := by
  have e1 : ordDo n.o 6 e 0 = (0, t, ⟨e, true, t + 1⟩) := by
    rw [h.o]
    unfold ordDo ordTold
    rw [if_neg (by omega), if_pos (Or.inl rfl), if_neg (by simp), if_neg (by simp), if_pos rfl, if_neg ht]
  unfold NdS.do
  rw [if_neg (by simp only; omega), if_pos (by simp only; omega)]
  simp only [e1]
  exact ⟨trivial, trivial, h.un, rfl, h.l⟩
theorem Kv.tail (h : Kv n R c M E D e t L) : (n.do ⟨7, 0, e, 0, 0, 0, ⟨#[]⟩, Esch.p0⟩).1.code = 0 ∧ (n.do ⟨7, 0, e, 0, 0, 0, ⟨#[]⟩, Esch.p0⟩).1.n = t ∧ Kv (n.do ⟨7, 0, e, 0, 0, 0, ⟨#[]⟩, Esch.p0⟩).2 R c M E D e t L := by
  have e1 : ordDo n.o 7 e 0 = (0, t, n.o) := by
    have ho := h.o
    unfold ordDo ordTold
    rw [if_neg (by omega), if_pos (Or.inr rfl), ho, if_neg (by simp), if_neg (by simp), if_neg (by omega)]
  unfold NdS.do
  rw [if_neg (by simp only; omega), if_pos (by simp only; omega)]
  simp only [e1]
  exact ⟨trivial, trivial, h.un, h.o, h.l⟩
end
/-- so many rounds -/
def it {α : Type} (f : α → α) : Nat → α → α
  | 0, s => s
  | k + 1, s => it f k (f s)
theorem it_succ {α : Type} (f : α → α) : ∀ k s, it f (k + 1) s = f (it f k s)
  | 0, _ => rfl
  | k + 1, s => it_succ f k (f s)
theorem it_add {α : Type} (f : α → α) : ∀ k j s, it f (k + j) s = it f j (it f k s)
  | 0, j, s => by rw [Nat.zero_add]; rfl
  | k + 1, j, s => by rw [Nat.add_right_comm]; exact it_add f k j (f s)
theorem it_stop {α : Type} (f : α → α) {s : α} (h : f s = s) : ∀ k, it f k s = s
  | 0 => rfl
  | k + 1 => by show it f k (f s) = s; rw [h]; exact it_stop f h k
/-- ended within K rounds, it stays so -/
theorem it_end {α : Type} {f : α → α} {s s' : α} {k K : Nat} (hk : k ≤ K) (h : it f k s = s') (hs : f s' = s') : it f K s = s' := by
  have := it_add f k (K - k) s
  rw [show k + (K - k) = K by omega] at this
  rw [this, h, it_stop f hs]
def feN (s : NdS × FeS) : NdS × FeS := if s.2.at = 6 then s else ((s.1.do s.2.ask.1).2, s.2.hear (s.1.do s.2.ask.1).1 true)
def apN (s : NdS × ApS) : NdS × ApS := if s.2.at = 5 then s else ((s.1.do s.2.ask.1).2, s.2.hear (s.1.do s.2.ask.1).1 true)
def taN (s : NdS × TaS) : NdS × TaS := if s.2.at = 2 then s else ((s.1.do s.2.ask.1).2, s.2.hear (s.1.do s.2.ask.1).1 true)
theorem fateF_nil (i : Nat) : fateF [] i = 0 := by unfold fateF; rw [if_neg (by simp)]
theorem hd_ask0' (hd : HdS) (q : QS) : hd.ask q 0 = (((hd.nd.do q).1, true), { hd with nd := (hd.nd.do q).2 }) := by
  unfold HdS.ask
  rw [if_pos rfl]
theorem stR_it (hd : HdS) (p : Proj) (x : Int) (fill : Bool) : ∀ k, stR hd p x fill [] k = ({ hd with nd := (it feN k (hd.nd, fe0 p x fill)).1 }, (it feN k (hd.nd, fe0 p x fill)).2)
  | 0 => rfl
  | k + 1 => by
    show feTurn (stR hd p x fill [] k) (fateF [] k) = _
    rw [stR_it hd p x fill k, fateF_nil, it_succ]
    obtain ⟨⟨n, s⟩, hns⟩ : ∃ r, r = it feN k (hd.nd, fe0 p x fill) := ⟨_, rfl⟩
    rw [← hns]
    unfold feTurn feN
    simp only
    by_cases h6 : s.at = 6
    · rw [if_pos h6, if_pos h6]
    · rw [if_neg h6, if_neg h6, hd_ask0']
theorem stT_it (hd : HdS) (p : Proj) : ∀ k, stT hd p [] k = ({ hd with nd := (it taN k (hd.nd, ta0 p)).1 }, (it taN k (hd.nd, ta0 p)).2)
  | 0 => rfl
  | k + 1 => by
    show taTurn (stT hd p [] k) (fateF [] k) = _
    rw [stT_it hd p k, fateF_nil, it_succ]
    obtain ⟨⟨n, s⟩, hns⟩ : ∃ r, r = it taN k (hd.nd, ta0 p) := ⟨_, rfl⟩
    rw [← hns]
    unfold taTurn taN
    simp only
    by_cases h6 : s.at = 2
    · rw [if_pos h6, if_pos h6]
    · rw [if_neg h6, if_neg h6, hd_ask0']
end Go.Proofs.YtghdhhbpbmhooaaGreat
