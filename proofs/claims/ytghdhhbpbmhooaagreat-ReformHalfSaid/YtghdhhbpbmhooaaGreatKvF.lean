/- a fetch, an append, a tail, all heard, behind a change: plain Lean -/
import Derived.Test.YtghdhhbpbmhooaaGreatKvM
namespace Go.Proofs.YtghdhhbpbmhooaaGreat
open Go.RowKit Esch

structure Chn (q : Proj) (x : Int) (C : List Int) (pg : Int) : Prop where
  of : (ofP q x).2.1 = pg
  ok : (ofP q x).2.2 = true
  ch : chainP q x = C
  inb : inB pg = true
  n0 : 1 ≤ C.length
  n4 : C.length ≤ 4
/-- all units of a chain are there; on this page nothing lies, or v -/
def Rdy (C : List Int) (M : Pgs) (E : Nat → Int) (D : Nat → Bool) (ep pg : Int) (v : ByteArray) : Prop := ∀ k, k < C.length → ∃ u : Nat, u < 16 ∧ C.getD k 0 = u ∧ D u = false ∧ E u ≤ ep ∧ (M u pg = none ∨ M u pg = some (1, v))
/-- only pages of this chain, that were empty, have come -/
def Ext (M M' : Pgs) (C : List Int) (pg : Int) (v : Int × ByteArray) : Prop := ∀ j a, M' j a = M j a ∨ (M j a = none ∧ (j : Int) ∈ C ∧ a = pg ∧ M' j a = some v)
section
variable {M M' M'' : Pgs} {C : List Int} {pg : Int} {v : Int × ByteArray}
theorem Ext.refl : Ext M M C pg v := fun _ _ => Or.inl rfl
theorem Ext.trans (h : Ext M M' C pg v) (h' : Ext M' M'' C pg v) : Ext M M'' C pg v := fun j a => by
  rcases h' j a with e | ⟨e1, e2, e3, e4⟩
  · rcases h j a with g | ⟨g1, g2, g3, g4⟩
    · exact Or.inl (e.trans g)
    · exact Or.inr ⟨g1, g2, g3, e.trans g4⟩
  · rcases h j a with g | ⟨g1, g2, g3, g4⟩
    · exact Or.inr ⟨g ▸ e1, e2, e3, e4⟩
    · exact Or.inr ⟨g1, e2, e3, e4⟩
theorem Ext.set {u : Nat} (hu : (u : Int) ∈ C) (h : M u pg = none) : Ext M (setPg M u pg v) C pg v := fun j a => by
  unfold setPg
  by_cases g : j = u ∧ a = pg
  · rw [if_pos g]
    obtain ⟨rfl, rfl⟩ := g
    exact Or.inr ⟨h, hu, rfl, rfl⟩
  · rw [if_neg g]; exact Or.inl rfl
theorem Ext.keep (h : Ext M M' C pg v) {j : Nat} {a : Int} {w : Int × ByteArray} (hM : M j a = some w) : M' j a = some w := by
  rcases h j a with e | ⟨e, -⟩
  · rw [e, hM]
  · rw [hM] at e; cases e
theorem Rdy.ext {E : Nat → Int} {D : Nat → Bool} {ep : Int} {d : ByteArray} (h : Rdy C M E D ep pg d) (hx : Ext M M' C pg (1, d)) : Rdy C M' E D ep pg d := fun k hk => by
  obtain ⟨u, h1, h2, h3, h4, h5⟩ := h k hk
  refine ⟨u, h1, h2, h3, h4, ?_⟩
  rcases hx u pg with e | ⟨-, -, -, e⟩
  · rw [e]; exact h5
  · exact Or.inr e
end
theorem getD_in {C : List Int} {k : Nat} (hk : k < C.length) : C.getD k 0 ∈ C := by
  rw [List.getD_eq_getElem?_getD, List.getElem?_eq_getElem hk, Option.getD_some]
  exact List.getElem_mem hk
theorem fe_look {s : FeS} {x : AnS} (h6 : s.at ≠ 6) (h45 : x.code ≠ 45) (h40 : x.code ≠ 40) (h43 : x.code ≠ 43) : s.hear x true = s.look x (chainP s.p s.addr).length := by
  have he : s.early x.code true = (s, false) := by
    unfold FeS.early
    rw [if_neg (by simp), if_neg (fun e => h45 e.1), if_neg h45, if_neg h40, if_neg (fun e => h43 e.1)]
  unfold FeS.hear
  rw [if_neg h6, he, if_neg (by simp)]
section
variable {q : Proj} {x : Int} {C : List Int} {pg : Int} {v : ByteArray} {R : Nat} {E : Nat → Int} {D : Nat → Bool} {e t : Int} {L : LayS}
/-- the other units get what the first one has -/
theorem fe_mend (hc : Chn q x C pg) (hv : v.size ≤ 4096) : ∀ (m : Nat) {n : NdS} {c i : Nat} {M : Pgs} {s : FeS}, Kv n R c M E D e t L → c + (m + 1) ≤ R → Rdy C M E D q.epoch pg v → s.p = q → s.addr = x → s.at = 5 → s.kind = 1 → s.s = v → s.i = i → i + (m + 1) = C.length →
    ∃ n' s' M', it feN (m + 1) (n, s) = (n', s') ∧ s'.at = 6 ∧ s'.kind = 1 ∧ s'.s = v ∧ s'.err = s.err ∧ Kv n' R (c + (m + 1)) M' E D e t L ∧ Ext M M' C pg (1, v) := by
  intro m
  induction m with
  | zero =>
    intro n c i M s hK hR hr hp hx h5 hk hs hi hm
    obtain ⟨u, u1, u2, u3, u4, u5⟩ := hr i (by omega)
    have hmem : (u : Int) ∈ C := by rw [← u2]; exact getD_in (by omega)
    have ha : s.ask.1 = ⟨1, u, q.epoch, pg, 0, 0, v, Esch.p0⟩ := by
      unfold FeS.ask
      rw [if_neg (by omega), if_neg (by omega), if_neg (by omega), if_neg (by omega), if_neg (by omega), if_pos hk, hp, hx, hc.ch, hc.of, hi, hs, Int.toNat_natCast, u2]
    have hlen : (chainP s.p s.addr).length = C.length := by rw [hp, hx, hc.ch]
    have key : ∀ y : AnS, (y.code = 0 ∨ y.code = 41) → s.hear y true = { s with i := s.i + 1, «at» := 6 } := fun y hy => by
      rw [fe_look (by omega) (by omega) (by omega) (by omega), hlen]
      unfold FeS.look
      rw [if_neg (by omega), if_neg (by omega), if_neg (by omega), if_neg (by omega), if_neg (by omega), if_pos hy]
      unfold FeS.mended
      rw [if_pos (by rw [hi]; omega)]
    show ∃ n' s' M', feN (n, s) = (n', s') ∧ _
    unfold feN
    simp only
    rw [if_neg (by omega), ha]
    rcases u5 with u5 | u5
    · obtain ⟨g1, g2⟩ := hK.write_new u u1 q.epoch pg u3 u4 hc.inb v hv (by omega) u5
      exact ⟨_, _, _, rfl, by rw [key _ (Or.inl g1)], by rw [key _ (Or.inl g1)]; exact hk, by rw [key _ (Or.inl g1)]; exact hs, by rw [key _ (Or.inl g1)], g2, Ext.set hmem u5⟩
    · obtain ⟨g1, g2⟩ := hK.write_old u u1 q.epoch pg u3 u4 hc.inb v hv u5
      exact ⟨_, _, _, rfl, by rw [key _ (Or.inr g1)], by rw [key _ (Or.inr g1)]; exact hk, by rw [key _ (Or.inr g1)]; exact hs, by rw [key _ (Or.inr g1)], g2.mono (by omega), Ext.refl⟩
  | succ m ih =>
    intro n c i M s hK hR hr hp hx h5 hk hs hi hm
    obtain ⟨u, u1, u2, u3, u4, u5⟩ := hr i (by omega)
    have hmem : (u : Int) ∈ C := by rw [← u2]; exact getD_in (by omega)
    have ha : s.ask.1 = ⟨1, u, q.epoch, pg, 0, 0, v, Esch.p0⟩ := by
      unfold FeS.ask
      rw [if_neg (by omega), if_neg (by omega), if_neg (by omega), if_neg (by omega), if_neg (by omega), if_pos hk, hp, hx, hc.ch, hc.of, hi, hs, Int.toNat_natCast, u2]
    have hlen : (chainP s.p s.addr).length = C.length := by rw [hp, hx, hc.ch]
    have key : ∀ y : AnS, (y.code = 0 ∨ y.code = 41) → s.hear y true = { s with i := s.i + 1, «at» := 5 } := fun y hy => by
      rw [fe_look (by omega) (by omega) (by omega) (by omega), hlen]
      unfold FeS.look
      rw [if_neg (by omega), if_neg (by omega), if_neg (by omega), if_neg (by omega), if_neg (by omega), if_pos hy]
      unfold FeS.mended
      rw [if_neg (by rw [hi]; omega)]
    have hstep : ∃ n1 M1, feN (n, s) = (n1, { s with i := s.i + 1, «at» := 5 }) ∧ Kv n1 R (c + 1) M1 E D e t L ∧ Ext M M1 C pg (1, v) := by
      unfold feN
      simp only
      rw [if_neg (by omega), ha]
      rcases u5 with u5 | u5
      · obtain ⟨g1, g2⟩ := hK.write_new u u1 q.epoch pg u3 u4 hc.inb v hv (by omega) u5
        exact ⟨_, _, by rw [key _ (Or.inl g1)], g2, Ext.set hmem u5⟩
      · obtain ⟨g1, g2⟩ := hK.write_old u u1 q.epoch pg u3 u4 hc.inb v hv u5
        exact ⟨_, _, by rw [key _ (Or.inr g1)], g2.mono (by omega), Ext.refl⟩
    obtain ⟨n1, M1, h1, h2, h3⟩ := hstep
    obtain ⟨n', s', M', g1, g2, g3, g4, g5, g6, g7⟩ := ih (i := i + 1) (s := { s with i := s.i + 1, «at» := 5 }) h2 (by omega) (hr.ext h3) hp hx rfl hk hs (by show s.i + 1 = _; rw [hi]; omega) (by omega)
    refine ⟨n', s', M', ?_, g2, g3, g4, g5, by rw [show c + (m + 1 + 1) = c + 1 + (m + 1) by omega]; exact g6, h3.trans g7⟩
    show it feN (m + 1) (feN (n, s)) = _
    rw [h1]
    exact g1
/-- what is there is read -/
theorem fe_read {n : NdS} {c : Nat} {M : Pgs} {s : FeS} (hc : Chn q x C pg) (hv : v.size ≤ 4096) (hK : Kv n R c M E D e t L) (hR : c + 3 ≤ R) (hr : Rdy C M E D q.epoch pg v) (h0 : ∃ u : Nat, C.getD 0 0 = u ∧ M u pg = some (1, v)) (hp : s.p = q) (hx : s.addr = x) (h2 : s.at = 2) :
    ∃ k, k ≤ 6 ∧ ∃ n' s' M', it feN k (n, s) = (n', s') ∧ s'.at = 6 ∧ s'.kind = 1 ∧ s'.s = v ∧ s'.err = s.err ∧ Kv n' R (c + 3) M' E D e t L ∧ Ext M M' C pg (1, v) := by
  have n0 := hc.n0
  have n4 := hc.n4
  obtain ⟨u, u1, u2, u3, u4, u5⟩ := hr (C.length - 1) (by omega)
  have ha : s.ask.1 = ⟨3, u, q.epoch, pg, 0, 0, ⟨#[]⟩, Esch.p0⟩ := by
    unfold FeS.ask
    rw [if_neg (by omega), if_neg (by omega), if_pos h2, hp, hx, hc.ch, hc.of, u2]
  obtain ⟨g1, g2, g3⟩ := hK.read u u1 q.epoch pg u3 u4 hc.inb
  rcases u5 with u5 | u5
  · rw [u5] at g1
    simp only at g1
    obtain ⟨w, w2, w5⟩ := h0
    have hlen' : C.length ≠ 1 := fun hl => by
      rw [hl, w2] at u2
      have : (w : Int) = u := u2
      obtain rfl : w = u := by omega
      rw [w5] at u5; cases u5
    have hcl : (chainP s.p s.addr).length = C.length := by rw [hp, hx, hc.ch]
    have s1 : s.hear (n.do ⟨3, u, q.epoch, pg, 0, 0, ⟨#[]⟩, Esch.p0⟩).1 true = { s with «at» := 3 } := by
      rw [fe_look (by omega) (by omega) (by omega) (by omega), hcl]
      unfold FeS.look
      rw [if_neg (by omega), if_neg (by omega), if_pos h2, if_neg (by omega), if_neg (by omega), if_pos g1, if_neg hlen']
    obtain ⟨n1, hn1⟩ : ∃ n1, n1 = (n.do ⟨3, u, q.epoch, pg, 0, 0, ⟨#[]⟩, Esch.p0⟩).2 := ⟨_, rfl⟩
    rw [← hn1] at g3
    have f1 : feN (n, s) = (n1, { s with «at» := 3 }) := by
      unfold feN
      simp only
      rw [if_neg (by omega), ha, s1, hn1]
    obtain ⟨w', w1', w2', w3', w4', -⟩ := hr 0 (by omega)
    obtain rfl : w' = w := by have : (w' : Int) = w := by rw [← w2', w2]
                              omega
    have ha3 : ({ s with «at» := 3 } : FeS).ask.1 = ⟨3, w', q.epoch, pg, 0, 0, ⟨#[]⟩, Esch.p0⟩ := by
      unfold FeS.ask
      rw [if_neg (by simp), if_neg (by simp), if_neg (by simp), if_pos rfl]
      show QS.mk 3 ((chainP s.p s.addr).getD 0 0) s.p.epoch (ofP s.p s.addr).2.1 0 0 ⟨#[]⟩ Esch.p0 = _
      rw [hp, hx, hc.ch, hc.of, w2]
    obtain ⟨k1, k2, k3⟩ := g3.read w' w1' q.epoch pg w3' w4' hc.inb
    rw [w5] at k1
    simp only at k1
    have k1 : (n1.do ⟨3, w', q.epoch, pg, 0, 0, ⟨#[]⟩, Esch.p0⟩).1.code = 0 := k1
    have k2 := k2 (1, v) w5 (by show (1 : Int) ≠ 2; decide)
    have s2 : ({ s with «at» := 3 } : FeS).hear (n1.do ⟨3, w', q.epoch, pg, 0, 0, ⟨#[]⟩, Esch.p0⟩).1 true = { s with «at» := 5, i := 1, kind := 1, s := v } := by
      rw [fe_look (by simp) (by omega) (by omega) (by omega)]
      show ({ s with «at» := 3 } : FeS).look _ (chainP s.p s.addr).length = _
      rw [hcl]
      unfold FeS.look
      rw [if_neg (by simp), if_neg (by simp), if_neg (by simp), if_pos rfl, if_pos k1, k2]
      unfold FeS.mended
      rw [if_neg (by show ¬ (C.length : Int) ≤ 0 + 1; omega)]
      rfl
    obtain ⟨n2, hn2⟩ : ∃ n2, n2 = (n1.do ⟨3, w', q.epoch, pg, 0, 0, ⟨#[]⟩, Esch.p0⟩).2 := ⟨_, rfl⟩
    rw [← hn2] at k3
    have f2 : feN (n1, { s with «at» := 3 }) = (n2, { s with «at» := 5, i := 1, kind := 1, s := v }) := by
      unfold feN
      simp only
      rw [if_neg (by decide), ha3, s2, hn2]
    obtain ⟨n', s', M', m1, m2, m3, m4, m5, m6, m7⟩ := fe_mend hc hv (C.length - 2) (i := 1) (s := { s with «at» := 5, i := 1, kind := 1, s := v }) k3 (by omega) hr hp hx rfl rfl rfl rfl (by omega)
    refine ⟨2 + (C.length - 2 + 1), by omega, n', s', M', ?_, m2, m3, m4, m5, m6.mono (by omega), m7⟩
    rw [it_add]
    show it feN _ (feN (feN (n, s))) = _
    rw [f1, f2]
    exact m1
  · rw [u5] at g1
    have g1 : (n.do ⟨3, u, q.epoch, pg, 0, 0, ⟨#[]⟩, Esch.p0⟩).1.code = 0 := g1
    have g2 := g2 (1, v) u5 (by show (1 : Int) ≠ 2; decide)
    have s1 : s.hear (n.do ⟨3, u, q.epoch, pg, 0, 0, ⟨#[]⟩, Esch.p0⟩).1 true = s.over 1 v := by
      rw [fe_look (by omega) (by omega) (by omega) (by omega)]
      unfold FeS.look
      rw [if_neg (by omega), if_neg (by omega), if_pos h2, if_pos g1, g2]
    refine ⟨1, by omega, _, s.over 1 v, M, ?_, rfl, rfl, rfl, rfl, g3.mono (by omega), Ext.refl⟩
    show feN (n, s) = _
    unfold feN
    simp only
    rw [if_neg (by omega), ha, s1]
/-- an append writes what is left of its chain -/
theorem ap_write (hc : Chn q x C pg) (hn : C.Nodup) (hv : v.size ≤ 4096) : ∀ (m : Nat) {n : NdS} {c i : Nat} {M : Pgs} {s : ApS}, Kv n R c M E D e t L → c + (m + 1) ≤ R → (∀ k, k < C.length → ∃ u : Nat, u < 16 ∧ C.getD k 0 = u ∧ D u = false ∧ E u ≤ q.epoch ∧ (i ≤ k → M u pg = none)) → s.p = q → s.addr = x → s.at = 3 → s.txt = v → s.err = 0 → s.i = i → i + (m + 1) = C.length →
    ∃ n' s' M', it apN (m + 1) (n, s) = (n', s') ∧ s'.at = 5 ∧ s'.addr = x ∧ s'.err = 0 ∧ Kv n' R (c + (m + 1)) M' E D e t L ∧ Ext M M' C pg (1, v) ∧ ∀ k, i ≤ k → k < C.length → ∀ u : Nat, C.getD k 0 = u → M' u pg = some (1, v) := by
  intro m
  induction m with
  | zero =>
    intro n c i M s hK hR hr hp hx h3 hs he hi hm
    obtain ⟨u, u1, u2, u3, u4, u5⟩ := hr i (by omega)
    have u5 := u5 (Nat.le_refl _)
    have hmem : (u : Int) ∈ C := by rw [← u2]; exact getD_in (by omega)
    have ha : s.ask.1 = ⟨1, u, q.epoch, pg, 0, 0, v, Esch.p0⟩ := by
      unfold ApS.ask
      rw [if_neg (by omega), if_neg (by omega), if_neg (by omega), if_pos h3, hp, hx, hc.ch, hc.of, hi, hs, Int.toNat_natCast, u2]
    obtain ⟨g1, g2⟩ := hK.write_new u u1 q.epoch pg u3 u4 hc.inb v hv (by omega) u5
    have hh : s.hear (n.do ⟨1, u, q.epoch, pg, 0, 0, v, Esch.p0⟩).1 true = { s with perhaps := true, i := s.i + 1, «at» := 5 } := by
      rw [hear_ok3 h3 g1]
      unfold ApS.next
      rw [if_pos (by show s.i + 1 = ((chainP s.p s.addr).length : Int); rw [hp, hx, hc.ch, hi]; omega)]
    refine ⟨(n.do ⟨1, u, q.epoch, pg, 0, 0, v, Esch.p0⟩).2, { s with perhaps := true, i := s.i + 1, «at» := 5 }, _, ?_, rfl, hx, he, g2, Ext.set hmem u5, fun k hk hk' w hw => ?_⟩
    · show apN (n, s) = _
      unfold apN
      simp only
      rw [if_neg (by omega), ha, hh]
    · obtain rfl : k = i := by omega
      obtain rfl : w = u := by have : (w : Int) = u := by rw [← hw, u2]
                               omega
      exact setPg_at _ _ _ _
  | succ m ih =>
    intro n c i M s hK hR hr hp hx h3 hs he hi hm
    obtain ⟨u, u1, u2, u3, u4, u5⟩ := hr i (by omega)
    have u5 := u5 (Nat.le_refl _)
    have hmem : (u : Int) ∈ C := by rw [← u2]; exact getD_in (by omega)
    have ha : s.ask.1 = ⟨1, u, q.epoch, pg, 0, 0, v, Esch.p0⟩ := by
      unfold ApS.ask
      rw [if_neg (by omega), if_neg (by omega), if_neg (by omega), if_pos h3, hp, hx, hc.ch, hc.of, hi, hs, Int.toNat_natCast, u2]
    obtain ⟨g1, g2⟩ := hK.write_new u u1 q.epoch pg u3 u4 hc.inb v hv (by omega) u5
    have hh : s.hear (n.do ⟨1, u, q.epoch, pg, 0, 0, v, Esch.p0⟩).1 true = { s with perhaps := true, i := s.i + 1, «at» := 3 } := by
      rw [hear_ok3 h3 g1]
      unfold ApS.next
      rw [if_neg (by show ¬ s.i + 1 = ((chainP s.p s.addr).length : Int); rw [hp, hx, hc.ch, hi]; omega)]
    have f1 : apN (n, s) = ((n.do ⟨1, u, q.epoch, pg, 0, 0, v, Esch.p0⟩).2, { s with perhaps := true, i := s.i + 1, «at» := 3 }) := by
      unfold apN
      simp only
      rw [if_neg (by omega), ha, hh]
    obtain ⟨n', s', M', b1, b2, b3, b4, b5, b6, b7⟩ := ih (i := i + 1) (s := { s with perhaps := true, i := s.i + 1, «at» := 3 }) g2 (by omega) (fun k hk => by
      obtain ⟨w, w1, w2, w3, w4, w5⟩ := hr k hk
      refine ⟨w, w1, w2, w3, w4, fun hik => ?_⟩
      unfold setPg
      rw [if_neg (fun h => ?_)]
      · exact w5 (by omega)
      · have hwu : w = u := h.1
        have h1 : C[k]'hk = C[i]'(by omega) := by
          have a1 : C.getD k 0 = C[k]'hk := by rw [List.getD_eq_getElem?_getD, List.getElem?_eq_getElem hk, Option.getD_some]
          have a2 : C.getD i 0 = C[i]'(by omega) := by rw [List.getD_eq_getElem?_getD, List.getElem?_eq_getElem (by omega), Option.getD_some]
          rw [← a1, ← a2, w2, u2, hwu]
        have := List.pairwise_iff_getElem.1 hn i k (by omega) hk (by omega)
        exact this h1.symm) hp hx rfl hs he (by show s.i + 1 = _; rw [hi]; omega) (by omega)
    refine ⟨n', s', M', ?_, b2, b3, b4, by rw [show c + (m + 1 + 1) = c + 1 + (m + 1) by omega]; exact b5, (Ext.set hmem u5).trans b6, fun k hk hk' w hw => ?_⟩
    · show it apN (m + 1) (apN (n, s)) = _
      rw [f1]
      exact b1
    · by_cases hik : k = i
      · subst hik
        obtain rfl : w = u := by have : (w : Int) = u := by rw [← hw, u2]
                                 omega
        exact b6.keep (setPg_at _ _ _ _)
      · exact b7 k (by omega) hk' w hw
end
section
variable {q : Proj} {C : List Int} {pg : Int} {v : ByteArray} {R : Nat} {E : Nat → Int} {D : Nat → Bool} {t : Int} {L : LayS} {n : NdS} {c : Nat} {M : Pgs}
/-- an append goes to the next address -/
theorem ap_run {s : ApS} (hc : Chn q t C pg) (hn : C.Nodup) (hv : v.size ≤ 4096) (hK : Kv n R c M E D q.epoch t L) (hR : c + 4 ≤ R) (ht : t ≠ 16384) (hr : ∀ k, k < C.length → ∃ u : Nat, u < 16 ∧ C.getD k 0 = u ∧ D u = false ∧ E u ≤ q.epoch ∧ M u pg = none) (hp : s.p = q) (h2 : s.at = 2) (hs : s.txt = v) (he : s.err = 0) :
    ∃ k, k ≤ 5 ∧ ∃ n' s' M', it apN k (n, s) = (n', s') ∧ s'.at = 5 ∧ s'.addr = t ∧ s'.err = 0 ∧ Kv n' R (c + 4) M' E D q.epoch (t + 1) L ∧ Ext M M' C pg (1, v) ∧ ∀ k, k < C.length → ∀ u : Nat, C.getD k 0 = u → M' u pg = some (1, v) := by
  have n0 := hc.n0
  have n4 := hc.n4
  have ha : s.ask.1 = ⟨6, 0, q.epoch, 0, 0, 0, ⟨#[]⟩, Esch.p0⟩ := by
    unfold ApS.ask
    rw [if_neg (by omega), if_neg (by omega), if_pos h2, hp]
  obtain ⟨g1, g2, g3⟩ := hK.tok ht
  have f1 : apN (n, s) = ((n.do ⟨6, 0, q.epoch, 0, 0, 0, ⟨#[]⟩, Esch.p0⟩).2, { s with «at» := 3, i := 0, addr := t }) := by
    unfold apN
    simp only
    rw [if_neg (by omega), ha, hear_tok h2 g1 (by rw [g2, hp]; exact hc.ok), g2]
  obtain ⟨n', s', M', b1, b2, b3, b4, b5, b6, b7⟩ := ap_write hc hn hv (C.length - 1) (i := 0) (s := { s with «at» := 3, i := 0, addr := t }) g3 (by omega) (fun k hk => by
    obtain ⟨u, u1, u2, u3, u4, u5⟩ := hr k hk
    exact ⟨u, u1, u2, u3, u4, fun _ => u5⟩) hp rfl rfl hs he rfl (by omega)
  refine ⟨C.length - 1 + 1 + 1, by omega, n', s', M', ?_, b2, b3, b4, b5.mono (by omega), b6, fun k hk u hu => b7 k (Nat.zero_le _) hk u hu⟩
  show it apN (C.length - 1 + 1) (apN (n, s)) = _
  rw [f1]
  exact b1
/-- an append that begins with the old projection comes to the new one -/
theorem ap_old {e : Int} {s : ApS} {o : Proj} (hK : Kv n R c M E D e t L) (hL : L.p = q) (hg : goodB q = true) (hne : o.epoch ≠ e) (hp : s.p = o) (h2 : s.at = 2) :
    ∃ n' s', it apN 2 (n, s) = (n', s') ∧ Kv n' R c M E D e t L ∧ s'.p = q ∧ s'.at = 2 ∧ s'.txt = s.txt ∧ s'.err = s.err := by
  have ha : s.ask.1 = ⟨6, 0, o.epoch, 0, 0, 0, ⟨#[]⟩, Esch.p0⟩ := by
    unfold ApS.ask
    rw [if_neg (by omega), if_neg (by omega), if_pos h2, hp]
  obtain ⟨g1, g2⟩ := hK.tok_low (k := 6) (Or.inl rfl) hne
  obtain ⟨n1, hn1⟩ : ∃ n1, n1 = (n.do ⟨6, 0, o.epoch, 0, 0, 0, ⟨#[]⟩, Esch.p0⟩).2 := ⟨_, rfl⟩
  rw [← hn1] at g2
  have f1 : apN (n, s) = (n1, { s with «at» := 0 }) := by
    unfold apN
    simp only
    rw [if_neg (by omega), ha, hn1]
    unfold ApS.hear
    rw [if_neg (by omega), if_neg (by simp), if_neg (by omega), if_neg (by omega), if_pos g1]
  obtain ⟨l1, l2, l3⟩ := g2.lay
  rw [hL] at l2
  have ha1 : ({ s with «at» := 0 } : ApS).ask.1 = qLay := by
    unfold ApS.ask
    rw [if_neg (by simp), if_pos (Or.inl rfl)]
  have f2 : apN (n1, { s with «at» := 0 }) = (n1, { s with p := q, «at» := 2, addr := 0 }) := by
    unfold apN
    simp only
    rw [if_neg (by decide), ha1, l3]
    unfold ApS.hear
    rw [if_neg (by simp), if_neg (by simp), if_neg (by omega), if_neg (by omega), if_neg (by omega), if_pos rfl, if_pos ⟨l1, by rw [l2]; exact hg⟩, l2]
  exact ⟨n1, { s with p := q, «at» := 2, addr := 0 }, by show apN (apN (n, s)) = _; rw [f1, f2], g2, rfl, rfl, rfl, rfl⟩
end
end Go.Proofs.YtghdhhbpbmhooaaGreat
