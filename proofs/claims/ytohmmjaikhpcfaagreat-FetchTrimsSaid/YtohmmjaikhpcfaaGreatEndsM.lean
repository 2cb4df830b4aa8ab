/- an append whose questions are heard in the end: plain Lean -/
import Derived.Test.YtohmmjaikhpcfaaGreatApView
namespace Go.Proofs.YtohmmjaikhpcfaaGreat
open Go.RowKit Esch

abbrev qE : Proj := ⟨0, [[0, 1, 2], [3]]⟩
/-- a question of an append of rec -/
def GoodQ (rec : ByteArray) (q : QS) : Prop := q = q6 ∨ (∃ (u : Nat) (a : Int), u < 16 ∧ inB a = true ∧ q = ⟨1, u, 0, a, 0, 0, rec, Esch.p0⟩) ∨ ∃ (u : Nat) (a : Int), u < 16 ∧ inB a = true ∧ q = ⟨3, u, 0, a, 0, 0, ⟨#[]⟩, Esch.p0⟩
def AllRec (rec : ByteArray) (M : Pgs) : Prop := ∀ u a v, M u a = some v → v = (1, rec)
def PgLe (M M' : Pgs) : Prop := ∀ u a v, M u a = some v → M' u a = some v
theorem PgLe.refl (M : Pgs) : PgLe M M := fun _ _ _ h => h
theorem PgLe.trans {M M' M'' : Pgs} (h : PgLe M M') (h' : PgLe M' M'') : PgLe M M'' := fun u a v e => h' u a v (h u a v e)
theorem PgLe.set {M : Pgs} {u : Nat} {a : Int} (v : Int × ByteArray) (h : M u a = none) : PgLe M (setPg M u a v) := fun j b x e => by
  unfold setPg
  by_cases g : j = u ∧ b = a
  · rw [g.1, g.2, h] at e; cases e
  · rw [if_neg g]; exact e
theorem setPg_at (M : Pgs) (u : Nat) (a : Int) (v : Int × ByteArray) : setPg M u a v u a = some v := by unfold setPg; rw [if_pos ⟨rfl, rfl⟩]
theorem AllRec.set {rec : ByteArray} {M : Pgs} (h : AllRec rec M) (u : Nat) (a : Int) : AllRec rec (setPg M u a (1, rec)) := fun j b x e => by
  unfold setPg at e
  by_cases g : j = u ∧ b = a
  · rw [if_pos g] at e; exact (Option.some.inj e).symm
  · rw [if_neg g] at e; exact h j b x e
theorem vw_exec {rec : ByteArray} {s : NdS} {t c : Nat} {M : Pgs} {q : QS} (h : Vw s 200 t c M) (hr : rec.size ≤ 1000) (hA : AllRec rec M) (ht : t < 16384) (hc : c < 200) (hq : GoodQ rec q) : ∃ t' M', Vw (s.do q).2 200 t' (c + 1) M' ∧ t' ≤ t + 1 ∧ AllRec rec M' ∧ PgLe M M' := by
  rcases hq with rfl | ⟨u, a, hu, ha, rfl⟩ | ⟨u, a, hu, ha, rfl⟩
  · exact ⟨_, M, (h.next ht).2.mono (by omega), Nat.le_refl _, hA, PgLe.refl _⟩
  · cases hM : M u a with
    | none => exact ⟨t, _, (h.write_new u hu ha (by omega) hc hM).2, by omega, hA.set u a, PgLe.set _ hM⟩
    | some v => exact ⟨t, M, (h.write_old u hu ha (by omega) hM).2.mono (by omega), by omega, hA, PgLe.refl _⟩
  · exact ⟨t, M, (h.read u hu ha _).2.mono (by omega), by omega, hA, PgLe.refl _⟩
theorem ofP_qE {x : Int} (h0 : 0 ≤ x) (h1 : x < 16384) : ofP qE x = (x % 2, x / 2, true) := by
  unfold ofP
  rw [if_pos ⟨by decide, h0, h1⟩]
  rfl
theorem chainP_qE {x : Int} (h0 : 0 ≤ x) (h1 : x < 16384) : chainP qE x = [0, 1, 2] ∨ chainP qE x = [3] := by
  unfold chainP
  rw [ofP_qE h0 h1, if_pos rfl]
  have : x % 2 = 0 ∨ x % 2 = 1 := by omega
  rcases this with e | e
  · exact Or.inl (by simp only [e]; rfl)
  · exact Or.inr (by simp only [e]; rfl)
theorem chain_nat {x : Int} (h0 : 0 ≤ x) (h1 : x < 16384) : (chainP qE x).length ≤ 3 ∧ ∀ k, k < (chainP qE x).length → ∃ u : Nat, u < 16 ∧ (chainP qE x).getD k 0 = u := by
  rcases chainP_qE h0 h1 with e | e
  · rw [e]
    refine ⟨by decide, fun k hk => ?_⟩
    have hk : k < 3 := hk
    have : k = 0 ∨ k = 1 ∨ k = 2 := by omega
    rcases this with rfl | rfl | rfl
    · exact ⟨0, by decide, rfl⟩
    · exact ⟨1, by decide, rfl⟩
    · exact ⟨2, by decide, rfl⟩
  · rw [e]
    refine ⟨by decide, fun k hk => ?_⟩
    have hk : k < 1 := hk
    obtain rfl : k = 0 := by omega
    exact ⟨3, by decide, rfl⟩
/-- what is written of an append at address x, up to unit k -/
def UpTo (rec : ByteArray) (M : Pgs) (x : Int) (k : Nat) : Prop := ∀ j, j < k → ∀ u : Nat, (chainP qE x).getD j 0 = u → M u (x / 2) = some (1, rec)
theorem UpTo.le {rec : ByteArray} {M M' : Pgs} {x : Int} {k : Nat} (h : UpTo rec M x k) (hM : PgLe M M') : UpTo rec M' x k := fun j hj u hu => hM _ _ _ (h j hj u hu)
theorem UpTo.succ {rec : ByteArray} {M : Pgs} {x : Int} {k : Nat} (h : UpTo rec M x k) {u : Nat} (hu : (chainP qE x).getD k 0 = u) (hM : M u (x / 2) = some (1, rec)) : UpTo rec M x (k + 1) := fun j hj v hv => by
  by_cases e : j = k
  · subst e
    have : (v : Int) = u := by rw [← hv, hu]
    obtain rfl : v = u := by omega
    exact hM
  · exact h j (by omega) v hv
/-- the append on its way, at unit k of address x -/
structure ApOn (rec : ByteArray) (M : Pgs) (s : ApS) (x : Int) (k : Nat) : Prop where
  addr : s.addr = x
  x0 : 0 ≤ x
  x1 : x < 1000
  i : s.i = k
  up : UpTo rec M x k
structure ApE (rec : ByteArray) (M : Pgs) (s : ApS) : Prop where
  p : s.p = qE
  txt : s.txt = rec
  err : s.err = 0
  wh : s.at = 2 ∨ ∃ x k, ApOn rec M s x k ∧ ((s.at = 3 ∧ k < (chainP qE x).length) ∨ (s.at = 4 ∧ k < (chainP qE x).length ∧ UpTo rec M x (k + 1)) ∨ (s.at = 5 ∧ k = (chainP qE x).length))
theorem ApE.le {rec : ByteArray} {M M' : Pgs} {s : ApS} (h : ApE rec M s) (hM : PgLe M M') : ApE rec M' s := by
  refine ⟨h.p, h.txt, h.err, h.wh.imp id (fun ⟨x, k, hx, hw⟩ => ⟨x, k, ⟨hx.addr, hx.x0, hx.x1, hx.i, hx.up.le hM⟩, ?_⟩)⟩
  rcases hw with hw | ⟨h1, h2, h3⟩ | hw
  · exact Or.inl hw
  · exact Or.inr (Or.inl ⟨h1, h2, h3.le hM⟩)
  · exact Or.inr (Or.inr hw)
/-- how far it is yet -/
def muE (s : ApS) : Int := if s.at = 2 then 7 else if s.at = 3 then 2 * ((chainP qE s.addr).length - s.i) else if s.at = 4 then 2 * ((chainP qE s.addr).length - s.i) - 1 else 0
theorem muE_2 {s : ApS} (h : s.at = 2) : muE s = 7 := by unfold muE; rw [if_pos h]
theorem muE_3 {s : ApS} (h : s.at = 3) : muE s = 2 * ((chainP qE s.addr).length - s.i) := by unfold muE; rw [if_neg (by omega), if_pos h]
theorem muE_4 {s : ApS} (h : s.at = 4) : muE s = 2 * ((chainP qE s.addr).length - s.i) - 1 := by unfold muE; rw [if_neg (by omega), if_neg (by omega), if_pos h]
theorem muE_5 {s : ApS} (h : s.at = 5) : muE s = 0 := by unfold muE; rw [if_neg (by omega), if_neg (by omega), if_neg (by omega)]
theorem ApE.mu {rec : ByteArray} {M : Pgs} {s : ApS} (h : ApE rec M s) : 0 ≤ muE s ∧ muE s ≤ 7 ∧ (muE s ≤ 0 → s.at = 5) := by
  rcases h.wh with e | ⟨x, k, hx, hw⟩
  · unfold muE; rw [if_pos e]; exact ⟨by decide, by decide, fun h => absurd h (by decide)⟩
  · have h3 := (chain_nat hx.x0 (by have := hx.x1; omega)).1
    have hi := hx.i
    unfold muE
    rw [hx.addr]
    rcases hw with ⟨e, hk⟩ | ⟨e, hk, -⟩ | ⟨e, -⟩
    · rw [if_neg (by omega), if_pos e]; omega
    · rw [if_neg (by omega), if_neg (by omega), if_pos e]; omega
    · rw [if_neg (by omega), if_neg (by omega), if_neg (by omega)]; exact ⟨by decide, by decide, fun _ => e⟩
/-- its question -/
theorem ApE.askQ {rec : ByteArray} {M : Pgs} {s : ApS} (h : ApE rec M s) (h5 : s.at ≠ 5) : GoodQ rec s.ask.1 := by
  rcases h.wh with e | ⟨x, k, hx, hw⟩
  · left
    unfold ApS.ask
    rw [if_neg h5, if_neg (by omega), if_pos e, h.p]
  · obtain ⟨h3, hu⟩ := chain_nat hx.x0 (by have := hx.x1; omega)
    have hpg : inB (ofP qE x).2.1 = true := by
      have := hx.x0; have := hx.x1
      rw [ofP_qE hx.x0 (by omega)]
      exact inB_iff.2 ⟨by simp only; omega, by simp only; omega⟩
    rcases hw with ⟨e, hk⟩ | ⟨e, hk, -⟩ | ⟨e, -⟩
    · right; left
      obtain ⟨u, hu1, hu2⟩ := hu k hk
      refine ⟨u, _, hu1, hpg, ?_⟩
      unfold ApS.ask
      rw [if_neg h5, if_neg (by omega), if_neg (by omega), if_pos e, h.p, h.txt, hx.addr, hx.i, Int.toNat_natCast, hu2]
    · right; right
      obtain ⟨u, hu1, hu2⟩ := hu k hk
      refine ⟨u, _, hu1, hpg, ?_⟩
      unfold ApS.ask
      rw [if_neg h5, if_neg (by omega), if_neg (by omega), if_neg (by omega), h.p, hx.addr, hx.i, Int.toNat_natCast, hu2]
    · exact absurd e h5
/-- nothing is heard -/
theorem ApE.deaf {rec : ByteArray} {M : Pgs} {s : ApS} (h : ApE rec M s) (x : AnS) : ApE rec M (s.hear x false) ∧ muE (s.hear x false) = muE s := by
  by_cases h5 : s.at = 5
  · rw [ApS.hear_end h5]; exact ⟨h, rfl⟩
  · rw [ApS.hear_lost h5]
    exact ⟨⟨h.p, h.txt, h.err, h.wh.imp id (fun ⟨x, k, hx, hw⟩ => ⟨x, k, ⟨hx.addr, hx.x0, hx.x1, hx.i, hx.up⟩, hw⟩)⟩, rfl⟩
theorem hear_tok {s : ApS} (h : s.at = 2) {x : AnS} (hx : x.code = 0) (ho : (ofP s.p x.n).2.2 = true) : s.hear x true = { s with «at» := 3, i := 0, addr := x.n } := by
  unfold ApS.hear
  rw [if_neg (by omega), if_neg (by simp), if_neg (by omega), if_neg (by omega), if_neg (by omega), if_neg (by omega), if_neg (by omega), if_pos h, if_neg (by omega), if_pos ⟨hx, ho⟩]
theorem hear_ok3 {s : ApS} (h : s.at = 3) {x : AnS} (hx : x.code = 0) : s.hear x true = ({ s with perhaps := true } : ApS).next := by
  unfold ApS.hear
  rw [if_neg (by omega), if_neg (by simp), if_neg (by omega), if_neg (by omega), if_neg (by omega), if_neg (by omega), if_neg (by omega), if_neg (by omega), if_pos h, if_pos hx]
theorem hear_wr3 {s : ApS} (h : s.at = 3) {x : AnS} (hx : x.code = 41) : s.hear x true = { s with «at» := 4 } := by
  unfold ApS.hear
  rw [if_neg (by omega), if_neg (by simp), if_neg (by omega), if_neg (by omega), if_neg (by omega), if_neg (by omega), if_neg (by omega), if_neg (by omega), if_pos h, if_neg (by omega), if_pos hx]
theorem hear_ok4 {s : ApS} (h : s.at = 4) {x : AnS} (hx : x.code = 0) (hd : x.data = s.txt) : s.hear x true = s.next := by
  unfold ApS.hear
  rw [if_neg (by omega), if_neg (by simp), if_neg (by omega), if_neg (by omega), if_neg (by omega), if_neg (by omega), if_neg (by omega), if_neg (by omega), if_neg (by omega), if_pos ⟨hx, hd⟩]
/-- the next unit -/
theorem ApE.nextOn {rec : ByteArray} {M : Pgs} {s : ApS} {x : Int} {k : Nat} (hp : s.p = qE) (ht : s.txt = rec) (he : s.err = 0) (ha : s.addr = x) (x0 : 0 ≤ x) (x1 : x < 1000) (hi : s.i = k) (hk : k < (chainP qE x).length) (hu : UpTo rec M x (k + 1)) : ApE rec M s.next ∧ muE s.next ≤ 2 * ((chainP qE x).length - k) - 2 := by
  unfold ApS.next
  rw [hp, ha, hi]
  by_cases e : (k : Int) + 1 = (chainP qE x).length
  · rw [if_pos e]
    refine ⟨⟨rfl, ht, he, Or.inr ⟨x, k + 1, ⟨rfl, x0, x1, by simp only; omega, hu⟩, Or.inr (Or.inr ⟨rfl, by omega⟩)⟩⟩, ?_⟩
    rw [muE_5 rfl]
    omega
  · rw [if_neg e]
    refine ⟨⟨rfl, ht, he, Or.inr ⟨x, k + 1, ⟨rfl, x0, x1, by simp only; omega, hu⟩, Or.inl ⟨rfl, by omega⟩⟩⟩, ?_⟩
    rw [muE_3 rfl]
    show 2 * (((chainP qE x).length : Int) - ((k : Int) + 1)) ≤ _
    omega
/-- all is heard -/
theorem ApE.heard {rec : ByteArray} {M : Pgs} {nd : NdS} {t c : Nat} {s : ApS} (h : ApE rec M s) (h5 : s.at ≠ 5) (hV : Vw nd 200 t c M) (hA : AllRec rec M) (hr : rec.size ≤ 1000) (ht : t < 1000) (hc : c < 200) :
    ∃ t' M', Vw (nd.do s.ask.1).2 200 t' (c + 1) M' ∧ t' ≤ t + 1 ∧ AllRec rec M' ∧ PgLe M M' ∧ ApE rec M' (s.hear (nd.do s.ask.1).1 true) ∧ muE (s.hear (nd.do s.ask.1).1 true) < muE s := by
  rcases h.wh with e | ⟨x, k, hx, hw⟩
  · have hq : s.ask.1 = q6 := by
      unfold ApS.ask
      rw [if_neg h5, if_neg (by omega), if_pos e, h.p]
    have hp := h.p
    obtain ⟨n1, n2⟩ := hV.next (show t < 16384 by omega)
    have ho : (ofP s.p (t : Int)).2.2 = true := by rw [hp, ofP_qE (by omega) (by omega)]
    rw [hq, n1, hear_tok e (x := anN t) rfl ho]
    have h3 := (chain_nat (x := (t : Int)) (by omega) (by omega)).1
    refine ⟨t + 1, M, n2.mono (by omega), Nat.le_refl _, hA, PgLe.refl _, ⟨hp, h.txt, h.err, Or.inr ⟨t, 0, ⟨rfl, by omega, by omega, rfl, fun j hj => absurd hj (by omega)⟩, Or.inl ⟨rfl, ?_⟩⟩⟩, ?_⟩
    · rcases chainP_qE (x := (t : Int)) (by omega) (by omega) with e | e <;> · rw [e]; decide
    · rw [muE_3 rfl, muE_2 e]
      show 2 * (((chainP qE (t : Int)).length : Int) - 0) < 7
      omega
  · obtain ⟨h3, hu⟩ := chain_nat hx.x0 (by have := hx.x1; omega)
    have x0 := hx.x0
    have x1 := hx.x1
    have hof : ofP qE x = (x % 2, x / 2, true) := ofP_qE hx.x0 (by omega)
    have hpg : inB (x / 2) = true := inB_iff.2 ⟨by omega, by omega⟩
    rcases hw with ⟨e, hk⟩ | ⟨e, hk, hup⟩ | ⟨e, -⟩
    · obtain ⟨u, hu1, hu2⟩ := hu k hk
      have hq : s.ask.1 = ⟨1, u, 0, x / 2, 0, 0, rec, Esch.p0⟩ := by
        unfold ApS.ask
        rw [if_neg h5, if_neg (by omega), if_neg (by omega), if_pos e, h.p, h.txt, hx.addr, hx.i, Int.toNat_natCast, hu2, hof]
      have hmu : muE s = 2 * ((chainP qE x).length - k) := by unfold muE; rw [if_neg (by omega), if_pos e, hx.addr, hx.i]
      rw [hq]
      cases hM : M u (x / 2) with
      | none =>
        obtain ⟨n1, n2⟩ := hV.write_new u hu1 hpg (show rec.size ≤ 4096 by omega) hc hM
        rw [n1, hear_ok3 e rfl]
        obtain ⟨g1, g2⟩ := ApE.nextOn (s := { s with perhaps := true }) h.p h.txt h.err hx.addr x0 x1 hx.i hk ((hx.up.le (PgLe.set (1, rec) hM)).succ hu2 (setPg_at _ _ _ _))
        exact ⟨t, _, n2, by omega, hA.set _ _, PgLe.set _ hM, g1, by omega⟩
      | some v =>
        obtain rfl := hA _ _ _ hM
        obtain ⟨n1, n2⟩ := hV.write_old u hu1 hpg (show rec.size ≤ 4096 by omega) hM
        rw [n1, hear_wr3 e rfl]
        refine ⟨t, M, n2.mono (by omega), by omega, hA, PgLe.refl _, ⟨h.p, h.txt, h.err, Or.inr ⟨x, k, ⟨hx.addr, x0, x1, hx.i, hx.up⟩, Or.inr (Or.inl ⟨rfl, hk, hx.up.succ hu2 hM⟩)⟩⟩, ?_⟩
        rw [hmu]
        rw [muE_4 rfl]
        show 2 * (((chainP qE s.addr).length : Int) - s.i) - 1 < _
        rw [hx.addr, hx.i]
        omega
    · obtain ⟨u, hu1, hu2⟩ := hu k hk
      have hq : s.ask.1 = ⟨3, u, 0, x / 2, 0, 0, ⟨#[]⟩, Esch.p0⟩ := by
        unfold ApS.ask
        rw [if_neg h5, if_neg (by omega), if_neg (by omega), if_neg (by omega), h.p, hx.addr, hx.i, Int.toNat_natCast, hu2, hof]
      have hmu : muE s = 2 * ((chainP qE x).length - k) - 1 := by unfold muE; rw [if_neg (by omega), if_neg (by omega), if_pos e, hx.addr, hx.i]
      obtain ⟨n1, n2⟩ := hV.read u hu1 hpg ⟨#[]⟩
      rw [hup k (by omega) u hu2] at n1
      rw [hq, n1]
      show ∃ t' M', _ ∧ _ ∧ _ ∧ _ ∧ ApE rec M' (s.hear (anU 0 rec) true) ∧ muE (s.hear (anU 0 rec) true) < muE s
      rw [show s.hear (anU 0 rec) true = s.next from hear_ok4 e rfl h.txt.symm]
      obtain ⟨g1, g2⟩ := ApE.nextOn h.p h.txt h.err hx.addr x0 x1 hx.i hk hup
      exact ⟨t, M, n2.mono (by omega), by omega, hA, PgLe.refl _, g1, by omega⟩
    · exact absurd e h5
/-- the whole, behind i rounds -/
structure EInv (rec : ByteArray) (i : Nat) (s : HdS × ApS) : Prop where
  at' : ∃ t M, Vw s.1.nd 200 t (2 * i) M ∧ t ≤ 2 * i ∧ AllRec rec M ∧ ApE rec M s.2
  held : ∀ q ∈ s.1.held, GoodQ rec q
theorem einv_do {rec : ByteArray} {c : Nat} {hd : HdS} (hr : rec.size ≤ 1000) {t : Nat} {M : Pgs} (hV : Vw hd.nd 200 t c M) (ht : t < 1000) (hA : AllRec rec M) (hc : c < 200) (hh : ∀ q ∈ hd.held, GoodQ rec q) (k : Int) :
    ∃ t' M', Vw (hd.doHeld k).2.nd 200 t' (c + 1) M' ∧ t' ≤ t + 1 ∧ AllRec rec M' ∧ PgLe M M' ∧ ∀ q ∈ (hd.doHeld k).2.held, GoodQ rec q := by
  unfold HdS.doHeld
  by_cases hk : k < 0
  · rw [if_pos hk]
    exact ⟨t, M, hV.mono (by omega), by omega, hA, PgLe.refl _, hh⟩
  · rw [if_neg hk]
    cases hq : hd.held[k.toNat]? with
    | none => exact ⟨t, M, hV.mono (by omega), by omega, hA, PgLe.refl _, hh⟩
    | some q =>
      obtain ⟨t', M', g1, g2, g3, g4⟩ := vw_exec hV hr hA (by omega) hc (hh q (List.mem_of_getElem? hq))
      exact ⟨t', M', g1, g2, g3, g4, fun q hq => hh q (List.mem_of_mem_eraseIdx hq)⟩
theorem einv_turn {rec : ByteArray} {c : Nat} {s : HdS × ApS} (hr : rec.size ≤ 1000) {t : Nat} {M : Pgs} (hV : Vw s.1.nd 200 t c M) (ht : t < 1000) (hA : AllRec rec M) (hE : ApE rec M s.2) (hc : c < 200) (hh : ∀ q ∈ s.1.held, GoodQ rec q) (h5 : s.2.at ≠ 5) (f : Int) :
    ∃ t' M', Vw (apTurn s f).1.nd 200 t' (c + 1) M' ∧ t' ≤ t + 1 ∧ AllRec rec M' ∧ PgLe M M' ∧ ApE rec M' (apTurn s f).2 ∧ (∀ q ∈ (apTurn s f).1.held, GoodQ rec q) ∧ muE (apTurn s f).2 ≤ muE s.2 ∧ (f = 0 → muE (apTurn s f).2 < muE s.2) := by
  have hq := hE.askQ h5
  unfold apTurn HdS.ask
  by_cases f0 : f = 0
  · rw [if_pos f0]
    obtain ⟨t', M', g1, g2, g3, g4, g5, g6⟩ := hE.heard h5 hV hA hr ht hc
    exact ⟨t', M', g1, g2, g3, g4, g5, hh, by simp only; omega, fun _ => g6⟩
  · rw [if_neg f0]
    by_cases f2 : f = 2
    · rw [if_pos f2]
      obtain ⟨t', M', g1, g2, g3, g4⟩ := vw_exec hV hr hA (by omega) hc hq
      obtain ⟨d1, d2⟩ := (hE.le g4).deaf an0
      exact ⟨t', M', g1, g2, g3, g4, d1, hh, by simp only; omega, fun e => absurd e f0⟩
    · rw [if_neg f2]
      obtain ⟨d1, d2⟩ := hE.deaf an0
      by_cases f3 : f = 3 ∧ s.1.held.length < 64
      · rw [if_pos f3]
        refine ⟨t, M, hV.mono (by omega), by omega, hA, PgLe.refl _, d1, fun q hq' => ?_, by simp only; omega, fun e => absurd e f0⟩
        rcases List.mem_append.1 hq' with h | h
        · exact hh q h
        · rw [List.mem_singleton.1 h]; exact hq
      · rw [if_neg f3]
        exact ⟨t, M, hV.mono (by omega), by omega, hA, PgLe.refl _, d1, hh, by simp only; omega, fun e => absurd e f0⟩
/-- a round: a question, and perhaps one that is held -/
def roundE (s : HdS × ApS) (f : Int) (d : Option Int) : HdS × ApS := match d with
  | none => apTurn s f
  | some k => (((apTurn s f).1.doHeld k).2, (apTurn s f).2)
theorem einv_round {rec : ByteArray} {i : Nat} {s : HdS × ApS} (hr : rec.size ≤ 1000) (h : EInv rec i s) (hi : i < 100) (h5 : s.2.at ≠ 5) (f : Int) (d : Option Int) : EInv rec (i + 1) (roundE s f d) ∧ muE (roundE s f d).2 ≤ muE s.2 ∧ (f = 0 → muE (roundE s f d).2 < muE s.2) := by
  obtain ⟨⟨t, M, hV, ht, hA, hE⟩, hh⟩ := h
  obtain ⟨t', M', g1, g2, g3, g4, g5, g6, g7, g8⟩ := einv_turn hr hV (by omega) hA hE (by omega) hh h5 f
  cases d with
  | none => exact ⟨⟨⟨t', M', g1.mono (by omega), by omega, g3, g5⟩, g6⟩, g7, g8⟩
  | some k =>
    obtain ⟨t2, M2, e1, e2, e3, e4, e5⟩ := einv_do hr g1 (by omega) g3 (by omega) g6 k
    exact ⟨⟨⟨t2, M2, e1.mono (by omega), by omega, e3, g5.le e4⟩, e5⟩, g7, g8⟩
/-- the states of the law -/
def stE (rec : ByteArray) (fates done : List Int) : Nat → HdS × ApS
  | 0 => (⟨nd0 qE 200, []⟩, ap0 qE rec)
  | i + 1 => roundE (stE rec fates done i) (if i < fates.length then fates.getD i 0 % 4 else 0) (if i < done.length then some (done.getD i 0) else none)
theorem stE_zero (rec : ByteArray) (hr : rec.size ≤ 1000) : EInv rec 0 (⟨nd0 qE 200, []⟩, ap0 qE rec) := by
  have e0 : ap0 qE rec = ⟨qE, rec, 2, 0, 0, 0, 0, false⟩ := by
    unfold ap0
    rw [if_neg (by decide), if_neg (by omega)]
  rw [e0]
  exact ⟨⟨0, _, vw_new rfl 200, by omega, (fun _ _ _ h => by cases h), ⟨rfl, rfl, rfl, Or.inl rfl⟩⟩, (fun q h => by cases h)⟩
theorem roundE_end {s : HdS × ApS} (h : s.2.at = 5) (f : Int) (d : Option Int) : (roundE s f d).2 = s.2 := by
  cases d with
  | none => exact apTurn_end h f
  | some k => exact apTurn_end h f
/-- up to where it is over -/
theorem stE_inv {rec : ByteArray} {fates done : List Int} (hr : rec.size ≤ 1000) (hf : fates.length ≤ 60) : ∀ i, i ≤ fates.length + 40 → (∀ j, j < i → (stE rec fates done j).2.at ≠ 5) → EInv rec i (stE rec fates done i) ∧ muE (stE rec fates done i).2 ≤ 7 - ((i : Int) - fates.length)
  | 0, _, _ => ⟨stE_zero rec hr, by have := ((stE_zero rec hr).at'); obtain ⟨t, M, -, -, -, hE⟩ := this; have := hE.mu; show muE (ap0 qE rec) ≤ _; simp only at this; omega⟩
  | i + 1, hi, h5 => by
    obtain ⟨h1, h2⟩ := stE_inv hr hf i (by omega) (fun j hj => h5 j (by omega))
    obtain ⟨g1, g2, g3⟩ := einv_round hr h1 (by omega) (h5 i (by omega)) (if i < fates.length then fates.getD i 0 % 4 else 0) (if i < done.length then some (done.getD i 0) else none)
    refine ⟨g1, ?_⟩
    show muE (roundE _ _ _).2 ≤ _
    obtain ⟨⟨t, M, -, -, -, hE⟩, -⟩ := g1
    have hm := hE.mu
    by_cases e : i < fates.length
    · omega
    · rw [if_neg e] at g3
      have := g3 rfl
      rw [if_neg e] at *
      omega
/-- where it is over all is there -/
theorem EInv.fin {rec : ByteArray} {i : Nat} {s : HdS × ApS} (h : EInv rec i s) (h5 : s.2.at = 5) : OverV s.2 = .tuple #[.int .i64 s.2.addr, .int .i64 0, .bool true] ∧ 0 ≤ s.2.addr ∧ s.2.addr < 1000 ∧ ∀ k, k < (chainP qE s.2.addr).length → ∃ u : Nat, u < 16 ∧ (chainP qE s.2.addr).getD k 0 = u ∧ (s.1.nd.units u).pg.read (ofP qE s.2.addr).2.1 = (rec, 0) := by
  obtain ⟨⟨t, M, hV, ht, hA, hE⟩, -⟩ := h
  rcases hE.wh with e | ⟨x, k, hx, hw⟩
  · omega
  · have hk : k = (chainP qE x).length := by
      rcases hw with ⟨e, -⟩ | ⟨e, -⟩ | ⟨-, e⟩
      · omega
      · omega
      · exact e
    rw [hx.addr]
    have x0 := hx.x0
    have x1 := hx.x1
    refine ⟨by unfold OverV; rw [if_pos h5, hx.addr, hE.err], x0, x1, fun j hj => ?_⟩
    obtain ⟨u, hu1, hu2⟩ := (chain_nat x0 (by omega)).2 j hj
    obtain ⟨g, hg, hW, hv⟩ := hV.page u hu1
    refine ⟨u, hu1, hu2, ?_⟩
    rw [hg, ofP_qE x0 (by omega)]
    show g.read (x / 2) = _
    rw [hW.read (inB_iff.2 ⟨by omega, by omega⟩), hv, hx.up j (by omega) u hu2]
    rfl
end Go.Proofs.YtohmmjaikhpcfaaGreat
