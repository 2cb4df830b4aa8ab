/- a fetch over units that are well; pages that are written and filled in the order of their chains: plain Lean -/
import Derived.Test.YtohmmjaikhpcfaaGreatEndsM
import Derived.Test.YtohmmjaikhpcfaaGreatPkFet2
namespace Go.Proofs.YtohmmjaikhpcfaaGreat
open Go.RowKit Esch

theorem nodup_len : ∀ (N : Nat) (l : List Int), l.Nodup → (∀ x ∈ l, 0 ≤ x ∧ x < N) → l.length ≤ N
  | 0, l, _, h => by
    cases l with
    | nil => exact Nat.le_refl _
    | cons x l => have := h x (by simp); omega
  | N + 1, l, hd, h => by
    by_cases hm : (N : Int) ∈ l
    · have h1 := nodup_len N (l.erase N) (hd.erase _) (fun x hx => by
        have hx' := hd.mem_erase_iff.1 hx
        have := h x hx'.2
        have := hx'.1
        omega)
      rw [List.length_erase_of_mem hm] at h1
      omega
    · have h1 := nodup_len N l hd (fun x hx => by
        have := h x hx
        have : x ≠ N := fun e => hm (e ▸ hx)
        omega)
      omega
/-- few pages: as many as there are places -/
theorem Vw.cap {s : NdS} {R t c : Nat} {M : Pgs} (h : Vw s R t c M) (hM : ∀ u, u < 16 → ∀ a v, M u a = some v → 0 ≤ a ∧ a < 14) : Vw s R t 14 M := by
  obtain ⟨P, h1, h2⟩ := h
  refine ⟨P, h1, fun u hu => ⟨?_, (h2 u hu).2⟩⟩
  obtain ⟨g1, g2⟩ := h2 u hu
  refine ⟨g1.room, g1.edge, ?_, g1.kinds, g1.apart⟩
  have := nodup_len 14 ((P u).m.map (·.1)) g1.apart (fun x hx => by
    obtain ⟨p, hp, rfl⟩ := List.mem_map.1 hx
    have hg : get (P u).m p.1 = some p.2 := (mem_iff_get g1.apart p.1 p.2).1 hp
    exact hM u hu p.1 p.2 ((g2 p.1).symm.trans hg))
  rwa [List.length_map] at this
abbrev qT : Proj := ⟨0, [[0, 1, 2], [3, 4], [5]]⟩
def lenT (a : Nat) : Nat := [3, 2, 1].getD (a % 3) 1
def uT (a k : Nat) : Nat := [0, 3, 5].getD (a % 3) 0 + k
theorem mod3 (a : Nat) : a % 3 = 0 ∨ a % 3 = 1 ∨ a % 3 = 2 := by omega
theorem lenT_le (a : Nat) : 1 ≤ lenT a ∧ lenT a ≤ 3 := by unfold lenT; rcases mod3 a with e | e | e <;> rw [e] <;> decide
theorem uT_lt {a k : Nat} (h : k < lenT a) : uT a k < 6 := by unfold uT; unfold lenT at h; rcases mod3 a with e | e | e <;> rw [e] at h ⊢ <;> simp at h ⊢ <;> omega
theorem uT_inj {a b j k : Nat} (hj : j < lenT a) (hk : k < lenT b) (h : uT a j = uT b k) : a % 3 = b % 3 ∧ j = k := by
  unfold uT at h; unfold lenT at hj hk
  rcases mod3 a with e | e | e <;> rcases mod3 b with e' | e' | e' <;> rw [e] at h hj <;> rw [e'] at h hk <;> simp at h hj hk <;> omega
theorem ofP_qT {a : Nat} (h : a < 40) : ofP qT (a : Int) = (((a % 3 : Nat) : Int), ((a / 3 : Nat) : Int), true) := by
  unfold ofP
  rw [if_pos ⟨by decide, by omega, by omega⟩]
  rfl
theorem chainP_qT {a : Nat} (h : a < 40) : (chainP qT (a : Int)).length = lenT a ∧ ∀ k, k < lenT a → (chainP qT (a : Int)).getD k 0 = (uT a k : Nat) := by
  unfold chainP lenT uT
  rw [ofP_qT h, if_pos rfl]
  simp only [Int.toNat_natCast]
  rcases mod3 a with e | e | e
  · rw [e]
    refine ⟨by decide, fun k hk => ?_⟩
    have hk : k < 3 := hk
    have : k = 0 ∨ k = 1 ∨ k = 2 := by omega
    rcases this with rfl | rfl | rfl <;> rfl
  · rw [e]
    refine ⟨by decide, fun k hk => ?_⟩
    have hk : k < 2 := hk
    have : k = 0 ∨ k = 1 := by omega
    rcases this with rfl | rfl <;> rfl
  · rw [e]
    refine ⟨by decide, fun k hk => ?_⟩
    have hk : k < 1 := hk
    obtain rfl : k = 0 := by omega
    rfl
/-- at address a the first m units of the chain have v, the others nothing -/
structure Pre (a : Nat) (M : Pgs) (m : Nat) (v : Int × ByteArray) : Prop where
  le : m ≤ lenT a
  at' : ∀ k, k < lenT a → M (uT a k) ((a / 3 : Nat) : Int) = if k < m then some v else none
def GoodV (v : Int × ByteArray) : Prop := v = (2, ⟨#[]⟩) ∨ (v.1 = 1 ∧ v.2.size ≤ 4096)
structure Inv (M : Pgs) : Prop where
  pre : ∀ a, a < 40 → ∃ m v, Pre a M m v ∧ GoodV v
  dom : ∀ u p v, M u p = some v → 0 ≤ p ∧ p < 14
theorem inv0 : Inv (fun _ _ => none) := ⟨fun a _ => ⟨0, (2, ⟨#[]⟩), ⟨Nat.zero_le _, fun k _ => by rw [if_neg (by omega)]⟩, Or.inl rfl⟩, fun _ _ _ h => by cases h⟩
theorem inB_page {a : Nat} (h : a < 40) : inB ((a / 3 : Nat) : Int) = true := inB_iff.2 ⟨by omega, by omega⟩
/-- one unit more -/
theorem Pre.more {a : Nat} {M : Pgs} {m : Nat} {v v' : Int × ByteArray} (h : Pre a M m v) (hm : m < lenT a) (hv : m = 0 ∨ v = v') : Pre a (setPg M (uT a m) ((a / 3 : Nat) : Int) v') (m + 1) v' := by
  refine ⟨by omega, fun k hk => ?_⟩
  unfold setPg
  by_cases e : k = m
  · subst e
    rw [if_pos ⟨rfl, rfl⟩, if_pos (by omega)]
  · rw [if_neg (fun g => e (by have := g.1; unfold uT at this; omega)), h.at' k hk]
    by_cases e2 : k < m
    · rw [if_pos e2, if_pos (by omega)]
      rcases hv with hv | hv
      · omega
      · rw [hv]
    · rw [if_neg e2, if_neg (by omega)]
theorem Pre.other {a b : Nat} {M : Pgs} {m k : Nat} {v v' : Int × ByteArray} (h : Pre b M m v) (hab : b ≠ a) (hk : k < lenT a) : Pre b (setPg M (uT a k) ((a / 3 : Nat) : Int) v') m v := by
  refine ⟨h.le, fun j hj => ?_⟩
  unfold setPg
  rw [if_neg (fun g => hab (by
    obtain ⟨g1, g2⟩ := g
    have := (uT_inj hj hk g1).1
    omega)), h.at' j hj]
theorem Inv.set {M : Pgs} (h : Inv M) {a : Nat} (ha : a < 40) {m : Nat} {v v' : Int × ByteArray} (hp : Pre a M m v) (hm : m < lenT a) (hv : m = 0 ∨ v = v') (hg : GoodV v') : Inv (setPg M (uT a m) ((a / 3 : Nat) : Int) v') := by
  refine ⟨fun b hb => ?_, fun u p x hx => ?_⟩
  · by_cases e : b = a
    · subst e; exact ⟨_, _, hp.more hm hv, hg⟩
    · obtain ⟨m2, v2, h2, g2⟩ := h.pre b hb
      exact ⟨m2, v2, h2.other e hm, g2⟩
  · unfold setPg at hx
    by_cases e : u = uT a m ∧ p = ((a / 3 : Nat) : Int)
    · rw [e.2]; omega
    · rw [if_neg e] at hx; exact h.dom u p x hx
/-- a unit of the chain is written, or filled: in order -/
structure VI (nd : NdS) (R : Nat) (M : Pgs) : Prop where
  vw : Vw nd R 0 14 M
  inv : Inv M
  big : 14 < R
section
variable {nd : NdS} {R : Nat} {M : Pgs} (h : VI nd R M) {a : Nat} (ha : a < 40) {m : Nat} {v : Int × ByteArray} (hp : Pre a M m v) {k : Nat} (hk : k < lenT a)
include h ha hp hk
theorem VI.write_old (hm : k < m) {d : ByteArray} (hd : d.size ≤ 4096) : (nd.do ⟨1, (uT a k : Nat), 0, ((a / 3 : Nat) : Int), 0, 0, d, Esch.p0⟩).1 = anU 41 ⟨#[]⟩ ∧ VI (nd.do ⟨1, (uT a k : Nat), 0, ((a / 3 : Nat) : Int), 0, 0, d, Esch.p0⟩).2 R M := by
  have hM := hp.at' k hk
  rw [if_pos hm] at hM
  obtain ⟨g1, g2⟩ := h.vw.write_old (uT a k) (by have := uT_lt hk; omega) (inB_page ha) hd hM
  exact ⟨g1, g2, h.inv, h.big⟩
theorem VI.write_new (hm : k = m) {d : ByteArray} (hd : d.size ≤ 4096) (hv : m = 0 ∨ v = (1, d)) : (nd.do ⟨1, (uT a k : Nat), 0, ((a / 3 : Nat) : Int), 0, 0, d, Esch.p0⟩).1 = anU 0 ⟨#[]⟩ ∧ VI (nd.do ⟨1, (uT a k : Nat), 0, ((a / 3 : Nat) : Int), 0, 0, d, Esch.p0⟩).2 R (setPg M (uT a m) ((a / 3 : Nat) : Int) (1, d)) := by
  have hM := hp.at' k hk
  rw [if_neg (by omega)] at hM
  obtain ⟨g1, g2⟩ := h.vw.write_new (uT a k) (by have := uT_lt hk; omega) (inB_page ha) hd h.big hM
  subst hm
  have hI := h.inv.set ha hp hk hv (Or.inr ⟨rfl, hd⟩)
  exact ⟨g1, g2.cap (fun u _ p x hx => hI.dom u p x hx), hI, h.big⟩
theorem VI.fill_old (hm : k < m) : (nd.do ⟨2, (uT a k : Nat), 0, ((a / 3 : Nat) : Int), 0, 0, ⟨#[]⟩, Esch.p0⟩).1 = anU (if v.1 = 2 then 0 else 41) ⟨#[]⟩ ∧ VI (nd.do ⟨2, (uT a k : Nat), 0, ((a / 3 : Nat) : Int), 0, 0, ⟨#[]⟩, Esch.p0⟩).2 R M := by
  have hM := hp.at' k hk
  rw [if_pos hm] at hM
  obtain ⟨g1, g2⟩ := h.vw.fill_old (uT a k) (by have := uT_lt hk; omega) (inB_page ha) ⟨#[]⟩ hM
  exact ⟨g1, g2, h.inv, h.big⟩
theorem VI.fill_new (hm : k = m) (hv : m = 0 ∨ v = (2, ⟨#[]⟩)) : (nd.do ⟨2, (uT a k : Nat), 0, ((a / 3 : Nat) : Int), 0, 0, ⟨#[]⟩, Esch.p0⟩).1 = anU 0 ⟨#[]⟩ ∧ VI (nd.do ⟨2, (uT a k : Nat), 0, ((a / 3 : Nat) : Int), 0, 0, ⟨#[]⟩, Esch.p0⟩).2 R (setPg M (uT a m) ((a / 3 : Nat) : Int) (2, ⟨#[]⟩)) := by
  have hM := hp.at' k hk
  rw [if_neg (by omega)] at hM
  obtain ⟨g1, g2⟩ := h.vw.fill_new (uT a k) (by have := uT_lt hk; omega) (inB_page ha) ⟨#[]⟩ h.big hM
  subst hm
  have hI := h.inv.set ha hp hk hv (Or.inl rfl)
  exact ⟨g1, g2.cap (fun u _ p x hx => hI.dom u p x hx), hI, h.big⟩
theorem VI.read : (nd.do ⟨3, (uT a k : Nat), 0, ((a / 3 : Nat) : Int), 0, 0, ⟨#[]⟩, Esch.p0⟩).1 = (if k < m then (if v.1 = 2 then anU 46 ⟨#[]⟩ else anU 0 v.2) else anU 42 ⟨#[]⟩) ∧ VI (nd.do ⟨3, (uT a k : Nat), 0, ((a / 3 : Nat) : Int), 0, 0, ⟨#[]⟩, Esch.p0⟩).2 R M := by
  obtain ⟨g1, g2⟩ := h.vw.read (uT a k) (by have := uT_lt hk; omega) (inB_page ha) ⟨#[]⟩
  refine ⟨?_, g2, h.inv, h.big⟩
  rw [g1, hp.at' k hk]
  by_cases e : k < m
  · rw [if_pos e, if_pos e]
  · rw [if_neg e, if_neg e]
end
/-- a fetch of address a on its way; W: what it will find; m units have it -/
structure FeI (a : Nat) (M : Pgs) (s : FeS) (W : Int × ByteArray) (m : Nat) : Prop where
  pre : Pre a M m W
  gv : GoodV W
  z : m = 0 → W = (2, ⟨#[]⟩)
  p : s.p = qT
  addr : s.addr = a
  err : s.err = 0
  wh : s.at = 2 ∨ s.at = 3 ∨ (s.at = 4 ∧ s.fill = true) ∨ (s.at = 5 ∧ ∃ k : Nat, s.i = k ∧ 1 ≤ k ∧ k < lenT a ∧ k ≤ m ∧ W = (s.kind, s.s)) ∨ (s.at = 6 ∧ ((m = lenT a ∧ W = (s.kind, s.s)) ∨ (s.fill = false ∧ s.kind = 0 ∧ s.s = ⟨#[]⟩ ∧ m = 0)))
def muF (s : FeS) (m : Nat) : Int := if s.at = 2 then 6 else if s.at = 3 then (if m = 0 then 5 else 3) else if s.at = 4 then 4 else if s.at = 5 then 3 - s.i else 0
theorem muF_2 {s : FeS} {m : Nat} (h : s.at = 2) : muF s m = 6 := by unfold muF; rw [if_pos h]
theorem muF_3 {s : FeS} {m : Nat} (h : s.at = 3) : muF s m = if m = 0 then 5 else 3 := by unfold muF; rw [if_neg (by omega), if_pos h]
theorem muF_4 {s : FeS} {m : Nat} (h : s.at = 4) : muF s m = 4 := by unfold muF; rw [if_neg (by omega), if_neg (by omega), if_pos h]
theorem muF_5 {s : FeS} {m : Nat} (h : s.at = 5) : muF s m = 3 - s.i := by unfold muF; rw [if_neg (by omega), if_neg (by omega), if_neg (by omega), if_pos h]
theorem muF_6 {s : FeS} {m : Nat} (h : s.at = 6) : muF s m = 0 := by unfold muF; rw [if_neg (by omega), if_neg (by omega), if_neg (by omega), if_neg (by omega)]
theorem FeI.mu {a : Nat} {M : Pgs} {s : FeS} {W : Int × ByteArray} {m : Nat} (h : FeI a M s W m) : 0 ≤ muF s m ∧ muF s m ≤ 6 ∧ (muF s m ≤ 0 → s.at = 6) := by
  have := lenT_le a
  rcases h.wh with e | e | ⟨e, -⟩ | ⟨e, k, hk, h1, h2, -⟩ | ⟨e, -⟩
  · rw [muF_2 e]; omega
  · rw [muF_3 e]
    by_cases g : m = 0
    · rw [if_pos g]; omega
    · rw [if_neg g]; omega
  · rw [muF_4 e]; omega
  · rw [muF_5 e, hk]; omega
  · rw [muF_6 e]; exact ⟨by decide, by decide, fun _ => e⟩
theorem FeI.mu_le {a : Nat} {M : Pgs} {s : FeS} {W : Int × ByteArray} {m m' : Nat} (h : FeI a M s W m) (hm : m ≤ m') : muF s m' ≤ muF s m := by
  rcases h.wh with e | e | ⟨e, -⟩ | ⟨e, -⟩ | ⟨e, -⟩
  · rw [muF_2 e, muF_2 e]; exact Int.le_refl _
  · rw [muF_3 e, muF_3 e]
    by_cases g : m = 0
    · rw [if_pos g]
      by_cases g' : m' = 0
      · rw [if_pos g']; exact Int.le_refl _
      · rw [if_neg g']; decide
    · rw [if_neg g, if_neg (by omega)]; exact Int.le_refl _
  · rw [muF_4 e, muF_4 e]; exact Int.le_refl _
  · rw [muF_5 e, muF_5 e]; exact Int.le_refl _
  · rw [muF_6 e, muF_6 e]; exact Int.le_refl _
/-- nothing is heard; more units have it -/
theorem FeI.deaf {a : Nat} {M M' : Pgs} {s : FeS} {W : Int × ByteArray} {m m' : Nat} (h : FeI a M s W m) (h6 : s.at ≠ 6) (hp : Pre a M' m' W) (hm : m ≤ m') : FeI a M' s W m' := by
  refine ⟨hp, h.gv, fun e => h.z (by omega), h.p, h.addr, h.err, ?_⟩
  rcases h.wh with e | e | e | ⟨e, k, h1, h2, h3, h4, h5⟩ | ⟨e, -⟩
  · exact Or.inl e
  · exact Or.inr (Or.inl e)
  · exact Or.inr (Or.inr (Or.inl e))
  · exact Or.inr (Or.inr (Or.inr (Or.inl ⟨e, k, h1, h2, h3, by omega, h5⟩)))
  · exact absurd e h6
theorem FeS.hear_deaf (s : FeS) (x : AnS) : s.hear x false = s := by
  unfold FeS.hear
  by_cases h : s.at = 6
  · rw [if_pos h]
  · rw [if_neg h]
    have : s.early x.code false = (s, true) := by unfold FeS.early; rw [if_pos rfl]
    rw [this, if_pos rfl]
theorem FeS.hear_look {s : FeS} (h6 : s.at ≠ 6) (_hl : ¬ (s.at = 0 ∨ s.at = 1)) {x : AnS} (h1 : x.code ≠ 45) (h2 : x.code ≠ 40) (h3 : x.code ≠ 43) : s.hear x true = s.look x (chainP s.p s.addr).length := by
  unfold FeS.hear
  rw [if_neg h6]
  have : s.early x.code true = (s, false) := by unfold FeS.early; rw [if_neg (by simp), if_neg (fun e => h1 e.1), if_neg h1, if_neg h2, if_neg (fun e => h3 e.1)]
  rw [this, if_neg (by simp)]
theorem FeI.mended {a : Nat} {M : Pgs} {s : FeS} {W : Int × ByteArray} {m k : Nat} (hp : Pre a M m W) (gv : GoodV W) (z : m = 0 → W = (2, ⟨#[]⟩)) (h1 : s.p = qT) (h2 : s.addr = a) (h3 : s.err = 0) (hi : s.i = k) (hW : W = (s.kind, s.s)) (hk : k < lenT a) (hkm : k + 1 ≤ m) : FeI a M (s.mended (lenT a)) W m ∧ muF (s.mended (lenT a)) m ≤ 3 - ((k : Int) + 1) := by
  have := lenT_le a
  have hpl := hp.le
  unfold FeS.mended
  by_cases e : ((lenT a : Nat) : Int) ≤ s.i + 1
  · rw [if_pos e]
    refine ⟨⟨hp, gv, z, h1, h2, h3, Or.inr (Or.inr (Or.inr (Or.inr ⟨rfl, Or.inl ⟨by omega, hW⟩⟩)))⟩, ?_⟩
    rw [muF_6 rfl]; omega
  · rw [if_neg e]
    have e1 : s.i + 1 = ((k + 1 : Nat) : Int) := by omega
    have e2 : k + 1 < lenT a := by omega
    refine ⟨⟨hp, gv, z, h1, h2, h3, Or.inr (Or.inr (Or.inr (Or.inl ⟨rfl, k + 1, e1, by omega, e2, hkm, hW⟩)))⟩, ?_⟩
    rw [muF_5 rfl]
    show 3 - (s.i + 1) ≤ _
    omega
theorem FeI.none' {a : Nat} {M : Pgs} {s : FeS} {W : Int × ByteArray} (h : FeI a M s W 0) : FeI a M s.none W 0 ∧ muF s.none 0 ≤ 4 := by
  unfold FeS.none
  by_cases e : s.fill = true
  · rw [if_pos e]
    exact ⟨⟨h.pre, h.gv, h.z, h.p, h.addr, h.err, Or.inr (Or.inr (Or.inl ⟨rfl, e⟩))⟩, by rw [muF_4 rfl]; decide⟩
  · rw [if_neg e]
    exact ⟨⟨h.pre, h.gv, h.z, h.p, h.addr, h.err, Or.inr (Or.inr (Or.inr (Or.inr ⟨rfl, Or.inr ⟨(by simpa using e : s.fill = false), rfl, rfl, rfl⟩⟩)))⟩, by rw [muF_6 rfl]; decide⟩
theorem look_2_0 {s : FeS} (h : s.at = 2) {x : AnS} (n : Nat) (hx : x.code = 0) : s.look x n = s.over 1 x.data := by unfold FeS.look; rw [if_neg (by omega), if_neg (by omega), if_pos h, if_pos hx]
theorem look_2_46 {s : FeS} (h : s.at = 2) {x : AnS} (n : Nat) (hx : x.code = 46) : s.look x n = s.over 2 ⟨#[]⟩ := by unfold FeS.look; rw [if_neg (by omega), if_neg (by omega), if_pos h, if_neg (by omega), if_pos hx]
theorem look_2_42 {s : FeS} (h : s.at = 2) {x : AnS} (n : Nat) (hx : x.code = 42) : s.look x n = if n = 1 then s.none else { s with «at» := 3 } := by unfold FeS.look; rw [if_neg (by omega), if_neg (by omega), if_pos h, if_neg (by omega), if_neg (by omega), if_pos hx]
theorem look_3_0 {s : FeS} (h : s.at = 3) {x : AnS} (n : Nat) (hx : x.code = 0) : s.look x n = ({ s with kind := 1, s := x.data, i := 0 } : FeS).mended n := by unfold FeS.look; rw [if_neg (by omega), if_neg (by omega), if_neg (by omega), if_pos h, if_pos hx]
theorem look_3_46 {s : FeS} (h : s.at = 3) {x : AnS} (n : Nat) (hx : x.code = 46) : s.look x n = ({ s with kind := 2, s := ⟨#[]⟩, i := 0 } : FeS).mended n := by unfold FeS.look; rw [if_neg (by omega), if_neg (by omega), if_neg (by omega), if_pos h, if_neg (by omega), if_pos hx]
theorem look_3_42 {s : FeS} (h : s.at = 3) {x : AnS} (n : Nat) (hx : x.code = 42) : s.look x n = s.none := by unfold FeS.look; rw [if_neg (by omega), if_neg (by omega), if_neg (by omega), if_pos h, if_neg (by omega), if_neg (by omega), if_pos hx]
theorem look_4_0 {s : FeS} (h : s.at = 4) {x : AnS} (n : Nat) (hx : x.code = 0) : s.look x n = ({ s with kind := 2, s := ⟨#[]⟩, i := 0 } : FeS).mended n := by unfold FeS.look; rw [if_neg (by omega), if_neg (by omega), if_neg (by omega), if_neg (by omega), if_pos h, if_pos hx]
theorem look_4_41 {s : FeS} (h : s.at = 4) {x : AnS} (n : Nat) (hx : x.code = 41) : s.look x n = { s with «at» := 3 } := by unfold FeS.look; rw [if_neg (by omega), if_neg (by omega), if_neg (by omega), if_neg (by omega), if_pos h, if_neg (by omega), if_pos hx]
theorem look_5 {s : FeS} (h : s.at = 5) {x : AnS} (n : Nat) (hx : x.code = 0 ∨ x.code = 41) : s.look x n = s.mended n := by unfold FeS.look; rw [if_neg (by omega), if_neg (by omega), if_neg (by omega), if_neg (by omega), if_neg (by omega), if_pos hx]
theorem goodV_2 {W : Int × ByteArray} (h : GoodV W) (e : W.1 = 2) : W = (2, ⟨#[]⟩) := by
  rcases h with h | ⟨h, -⟩
  · exact h
  · omega
theorem goodV_1 {W : Int × ByteArray} (h : GoodV W) (e : W.1 ≠ 2) : W = (1, W.2) ∧ W.2.size ≤ 4096 := by
  rcases h with h | ⟨h, hs⟩
  · exact absurd (by rw [h]) e
  · exact ⟨Prod.ext h rfl, hs⟩
theorem FeI.step {a : Nat} {M : Pgs} {s : FeS} {W : Int × ByteArray} {m R : Nat} {nd : NdS} (h : FeI a M s W m) (h6 : s.at ≠ 6) (ha : a < 40) (hV : VI nd R M) :
    ∃ M' m', VI (nd.do s.ask.1).2 R M' ∧ Pre a M' m' W ∧ m ≤ m' ∧ PgLe M M' ∧ FeI a M' (s.hear (nd.do s.ask.1).1 true) W m' ∧ muF (s.hear (nd.do s.ask.1).1 true) m' < muF s m := by
  obtain ⟨hcl, hcu⟩ := chainP_qT ha
  have hl := lenT_le a
  have hpl := h.pre.le
  have hof := ofP_qT ha
  have hep : s.p.epoch = 0 := by rw [h.p]
  have hcp : chainP s.p s.addr = chainP qT (a : Int) := by rw [h.p, h.addr]
  have hop : (ofP s.p s.addr).2.1 = ((a / 3 : Nat) : Int) := by rw [h.p, h.addr, hof]
  have key : ∀ x : AnS, (s.at = 2 ∨ s.at = 3 ∨ s.at = 4 ∨ s.at = 5) → x.code ≠ 45 → x.code ≠ 40 → x.code ≠ 43 → s.hear x true = s.look x (lenT a) := fun x hx h1 h2 h3 => by
    rw [FeS.hear_look h6 (by omega) h1 h2 h3, hcp, hcl]
  rcases h.wh with e | e | ⟨e, hfl⟩ | ⟨e, k, hi, h1, h2, h3, h4⟩ | ⟨e, -⟩
  · have hq : s.ask.1 = ⟨3, (uT a (lenT a - 1) : Nat), 0, ((a / 3 : Nat) : Int), 0, 0, ⟨#[]⟩, Esch.p0⟩ := by
      rw [FeS.ask_2' e, hcp, hcl, hcu _ (by omega), hop, hep]
    obtain ⟨r1, r2⟩ := hV.read ha h.pre (show lenT a - 1 < lenT a by omega)
    rw [hq, r1]
    refine ⟨M, m, r2, h.pre, Nat.le_refl _, PgLe.refl _, ?_⟩
    rw [muF_2 e]
    by_cases hm : lenT a - 1 < m
    · rw [if_pos hm]
      by_cases h2 : W.1 = 2
      · rw [if_pos h2, key _ (Or.inl e) (by show ¬ (46 : Int) = 45; decide) (by show ¬ (46 : Int) = 40; decide) (by show ¬ (46 : Int) = 43; decide), look_2_46 e _ rfl]
        exact ⟨⟨h.pre, h.gv, h.z, h.p, h.addr, h.err, Or.inr (Or.inr (Or.inr (Or.inr ⟨rfl, Or.inl ⟨by omega, goodV_2 h.gv h2⟩⟩)))⟩, by rw [muF_6 rfl]; decide⟩
      · rw [if_neg h2, key _ (Or.inl e) (by show ¬ (0 : Int) = 45; decide) (by show ¬ (0 : Int) = 40; decide) (by show ¬ (0 : Int) = 43; decide), look_2_0 e _ rfl]
        exact ⟨⟨h.pre, h.gv, h.z, h.p, h.addr, h.err, Or.inr (Or.inr (Or.inr (Or.inr ⟨rfl, Or.inl ⟨by omega, (goodV_1 h.gv h2).1⟩⟩)))⟩, by rw [muF_6 rfl]; decide⟩
    · rw [if_neg hm, key _ (Or.inl e) (by show ¬ (42 : Int) = 45; decide) (by show ¬ (42 : Int) = 40; decide) (by show ¬ (42 : Int) = 43; decide), look_2_42 e _ rfl]
      by_cases hn : lenT a = 1
      · rw [if_pos hn]
        obtain rfl : m = 0 := by omega
        obtain ⟨g1, g2⟩ := h.none'
        exact ⟨g1, by omega⟩
      · rw [if_neg hn]
        refine ⟨⟨h.pre, h.gv, h.z, h.p, h.addr, h.err, Or.inr (Or.inl rfl)⟩, ?_⟩
        rw [muF_3 rfl]
        by_cases g : m = 0
        · rw [if_pos g]; decide
        · rw [if_neg g]; decide
  · have hq : s.ask.1 = ⟨3, (uT a 0 : Nat), 0, ((a / 3 : Nat) : Int), 0, 0, ⟨#[]⟩, Esch.p0⟩ := by
      rw [FeS.ask_3 e, hcp, hcu _ (by omega), hop, hep]
    obtain ⟨r1, r2⟩ := hV.read ha h.pre (show 0 < lenT a by omega)
    rw [hq, r1]
    refine ⟨M, m, r2, h.pre, Nat.le_refl _, PgLe.refl _, ?_⟩
    rw [muF_3 e]
    by_cases hm : 0 < m
    · rw [if_pos hm, if_neg (show ¬ m = 0 by omega)]
      by_cases h2 : W.1 = 2
      · rw [if_pos h2, key _ (Or.inr (Or.inl e)) (by show ¬ (46 : Int) = 45; decide) (by show ¬ (46 : Int) = 40; decide) (by show ¬ (46 : Int) = 43; decide), look_3_46 e _ rfl]
        obtain ⟨g1, g2⟩ := FeI.mended (s := { s with kind := 2, s := ⟨#[]⟩, i := 0 }) (k := 0) h.pre h.gv h.z h.p h.addr h.err rfl (goodV_2 h.gv h2) (by omega) (by omega)
        exact ⟨g1, by omega⟩
      · rw [if_neg h2, key _ (Or.inr (Or.inl e)) (by show ¬ (0 : Int) = 45; decide) (by show ¬ (0 : Int) = 40; decide) (by show ¬ (0 : Int) = 43; decide), look_3_0 e _ rfl]
        obtain ⟨g1, g2⟩ := FeI.mended (s := { s with kind := 1, s := W.2, i := 0 }) (k := 0) h.pre h.gv h.z h.p h.addr h.err rfl (goodV_1 h.gv h2).1 (by omega) (by omega)
        exact ⟨g1, Int.lt_of_le_of_lt g2 (by decide)⟩
    · obtain rfl : m = 0 := by omega
      rw [if_neg hm, if_pos (rfl : (0 : Nat) = 0), key _ (Or.inr (Or.inl e)) (by show ¬ (42 : Int) = 45; decide) (by show ¬ (42 : Int) = 40; decide) (by show ¬ (42 : Int) = 43; decide), look_3_42 e _ rfl]
      obtain ⟨g1, g2⟩ := h.none'
      exact ⟨g1, Int.lt_of_le_of_lt g2 (by decide)⟩
  · have hq : s.ask.1 = ⟨2, (uT a 0 : Nat), 0, ((a / 3 : Nat) : Int), 0, 0, ⟨#[]⟩, Esch.p0⟩ := by
      rw [FeS.ask_4 e, hcp, hcu _ (by omega), hop, hep]
    rw [hq, muF_4 e]
    by_cases hm : 0 < m
    · obtain ⟨r1, r2⟩ := hV.fill_old ha h.pre (show 0 < lenT a by omega) hm
      rw [r1]
      refine ⟨M, m, r2, h.pre, Nat.le_refl _, PgLe.refl _, ?_⟩
      by_cases h2 : W.1 = 2
      · rw [if_pos h2, key _ (Or.inr (Or.inr (Or.inl e))) (by show ¬ (0 : Int) = 45; decide) (by show ¬ (0 : Int) = 40; decide) (by show ¬ (0 : Int) = 43; decide), look_4_0 e _ rfl]
        obtain ⟨g1, g2⟩ := FeI.mended (s := { s with kind := 2, s := ⟨#[]⟩, i := 0 }) (k := 0) h.pre h.gv h.z h.p h.addr h.err rfl (goodV_2 h.gv h2) (by omega) (by omega)
        exact ⟨g1, by omega⟩
      · rw [if_neg h2, key _ (Or.inr (Or.inr (Or.inl e))) (by show ¬ (41 : Int) = 45; decide) (by show ¬ (41 : Int) = 40; decide) (by show ¬ (41 : Int) = 43; decide), look_4_41 e _ rfl]
        exact ⟨⟨h.pre, h.gv, h.z, h.p, h.addr, h.err, Or.inr (Or.inl rfl)⟩, by rw [muF_3 rfl, if_neg (by omega)]; decide⟩
    · obtain rfl : m = 0 := by omega
      have hW := h.z rfl
      obtain ⟨r1, r2⟩ := hV.fill_new ha h.pre (show 0 < lenT a by omega) rfl (Or.inl rfl)
      rw [r1]
      have hM := h.pre.at' 0 (by omega)
      rw [if_neg (by omega)] at hM
      have hp' := h.pre.more (v' := (2, ⟨#[]⟩)) (show 0 < lenT a by omega) (Or.inl rfl)
      rw [← hW] at hp'
      refine ⟨_, 1, r2, by rw [← hW]; exact hp', by omega, PgLe.set _ hM, ?_⟩
      rw [key _ (Or.inr (Or.inr (Or.inl e))) (by show ¬ (0 : Int) = 45; decide) (by show ¬ (0 : Int) = 40; decide) (by show ¬ (0 : Int) = 43; decide), look_4_0 e _ rfl]
      obtain ⟨g1, g2⟩ := FeI.mended (s := { s with kind := 2, s := ⟨#[]⟩, i := 0 }) (k := 0) hp' h.gv (fun h => absurd h (by decide)) h.p h.addr h.err rfl hW (by omega) (by omega)
      rw [hW] at g1
      exact ⟨by rw [hW]; exact g1, Int.lt_of_le_of_lt g2 (by decide)⟩
  · have hit : s.i.toNat = k := by omega
    rw [muF_5 e, hi]
    by_cases hkd : s.kind = 1
    · have hW1 : W = (1, s.s) := by rw [h4, hkd]
      have hsz : s.s.size ≤ 4096 := by
        have := (goodV_1 h.gv (by rw [hW1]; show (1 : Int) ≠ 2; decide)).2
        rw [hW1] at this; exact this
      have hq : s.ask.1 = ⟨1, (uT a k : Nat), 0, ((a / 3 : Nat) : Int), 0, 0, s.s, Esch.p0⟩ := by
        rw [FeS.ask_5W e hkd, hcp, hit, hcu _ h2, hop, hep]
      rw [hq]
      by_cases hm : k < m
      · obtain ⟨r1, r2⟩ := hV.write_old ha h.pre h2 hm hsz
        rw [r1, key _ (Or.inr (Or.inr (Or.inr e))) (by show ¬ (41 : Int) = 45; decide) (by show ¬ (41 : Int) = 40; decide) (by show ¬ (41 : Int) = 43; decide), look_5 e _ (Or.inr rfl)]
        obtain ⟨g1, g2⟩ := FeI.mended (s := s) (k := k) h.pre h.gv h.z h.p h.addr h.err hi h4 h2 (by omega)
        exact ⟨M, m, r2, h.pre, Nat.le_refl _, PgLe.refl _, g1, by omega⟩
      · obtain rfl : k = m := by omega
        obtain ⟨r1, r2⟩ := hV.write_new ha h.pre h2 rfl hsz (Or.inr hW1)
        have hM := h.pre.at' k h2
        rw [if_neg (by omega)] at hM
        have hp' := h.pre.more (v' := W) h2 (Or.inr rfl)
        rw [r1, key _ (Or.inr (Or.inr (Or.inr e))) (by show ¬ (0 : Int) = 45; decide) (by show ¬ (0 : Int) = 40; decide) (by show ¬ (0 : Int) = 43; decide), look_5 e _ (Or.inl rfl)]
        obtain ⟨g1, g2⟩ := FeI.mended (s := s) (k := k) hp' h.gv (fun h => absurd h (by omega)) h.p h.addr h.err hi h4 h2 (by omega)
        rw [← hW1] at r2
        exact ⟨_, k + 1, r2, hp', by omega, PgLe.set _ hM, g1, by omega⟩
    · have hW2 : W = (2, ⟨#[]⟩) := by
        refine goodV_2 h.gv (Classical.byContradiction fun hne => hkd ?_)
        have := (goodV_1 h.gv hne).1
        rw [h4] at this
        exact (Prod.mk.inj this).1
      have hq : s.ask.1 = ⟨2, (uT a k : Nat), 0, ((a / 3 : Nat) : Int), 0, 0, ⟨#[]⟩, Esch.p0⟩ := by
        rw [FeS.ask_5F e hkd, hcp, hit, hcu _ h2, hop, hep]
      rw [hq]
      by_cases hm : k < m
      · obtain ⟨r1, r2⟩ := hV.fill_old ha h.pre h2 hm
        rw [r1, if_pos (by rw [hW2]), key _ (Or.inr (Or.inr (Or.inr e))) (by show ¬ (0 : Int) = 45; decide) (by show ¬ (0 : Int) = 40; decide) (by show ¬ (0 : Int) = 43; decide), look_5 e _ (Or.inl rfl)]
        obtain ⟨g1, g2⟩ := FeI.mended (s := s) (k := k) h.pre h.gv h.z h.p h.addr h.err hi h4 h2 (by omega)
        exact ⟨M, m, r2, h.pre, Nat.le_refl _, PgLe.refl _, g1, by omega⟩
      · obtain rfl : k = m := by omega
        obtain ⟨r1, r2⟩ := hV.fill_new ha h.pre h2 rfl (Or.inr hW2)
        have hM := h.pre.at' k h2
        rw [if_neg (by omega)] at hM
        have hp' := h.pre.more (v' := W) h2 (Or.inr rfl)
        rw [r1, key _ (Or.inr (Or.inr (Or.inr e))) (by show ¬ (0 : Int) = 45; decide) (by show ¬ (0 : Int) = 40; decide) (by show ¬ (0 : Int) = 43; decide), look_5 e _ (Or.inl rfl)]
        obtain ⟨g1, g2⟩ := FeI.mended (s := s) (k := k) hp' h.gv (fun h => absurd h (by omega)) h.p h.addr h.err hi h4 h2 (by omega)
        rw [← hW2] at r2
        exact ⟨_, k + 1, r2, hp', by omega, PgLe.set _ hM, g1, by omega⟩
  · exact absurd e h6
/-- a round of a fetch -/
theorem FeI.turn {a : Nat} {M : Pgs} {s : HdS × FeS} {W : Int × ByteArray} {m R : Nat} (h : FeI a M s.2 W m) (ha : a < 40) (hV : VI s.1.nd R M) (f : Int) :
    ∃ M' m', VI (feTurn s f).1.nd R M' ∧ PgLe M M' ∧ FeI a M' (feTurn s f).2 W m' ∧ muF (feTurn s f).2 m' ≤ muF s.2 m ∧ (f = 0 → s.2.at ≠ 6 → muF (feTurn s f).2 m' < muF s.2 m) := by
  unfold feTurn
  by_cases h6 : s.2.at = 6
  · rw [if_pos h6]
    exact ⟨M, m, hV, PgLe.refl _, h, Int.le_refl _, fun _ e => absurd h6 e⟩
  · rw [if_neg h6]
    obtain ⟨M', m', g1, g2, g3, g4, g5, g6⟩ := h.step h6 ha hV
    unfold HdS.ask
    by_cases f0 : f = 0
    · rw [if_pos f0]
      exact ⟨M', m', g1, g4, g5, by simp only; omega, fun _ _ => g6⟩
    · rw [if_neg f0]
      by_cases f2 : f = 2
      · rw [if_pos f2]
        simp only [FeS.hear_deaf]
        exact ⟨M', m', g1, g4, h.deaf h6 g2 g3, h.mu_le g3, fun e => absurd e f0⟩
      · rw [if_neg f2]
        by_cases f3 : f = 3 ∧ s.1.held.length < 64
        · rw [if_pos f3]
          simp only [FeS.hear_deaf]
          exact ⟨M, m, hV, PgLe.refl _, h, Int.le_refl _, fun e => absurd e f0⟩
        · rw [if_neg f3]
          simp only [FeS.hear_deaf]
          exact ⟨M, m, hV, PgLe.refl _, h, Int.le_refl _, fun e => absurd e f0⟩
theorem stR_zero (hd : HdS) (p : Proj) (x : Int) (fill : Bool) (fates : List Int) : stR hd p x fill fates 0 = (hd, fe0 p x fill) := rfl
theorem FeS.hear_fill (s : FeS) (x : AnS) (b : Bool) : (s.hear x b).fill = s.fill := by
  unfold FeS.hear FeS.early FeS.look FeS.none FeS.over FeS.fail FeS.mended
  simp only [apply_ite FeS.fill, apply_ite Prod.fst, ite_self]
theorem stR_inv {a : Nat} {hd : HdS} {M : Pgs} {W : Int × ByteArray} {m R : Nat} {fill : Bool} {fates : List Int} (h : FeI a M (fe0 qT a fill) W m) (ha : a < 40) (hV : VI hd.nd R M) : ∀ i, ∃ M' m', VI (stR hd qT a fill fates i).1.nd R M' ∧ PgLe M M' ∧ FeI a M' (stR hd qT a fill fates i).2 W m' ∧ ((stR hd qT a fill fates i).2.at = 6 ∨ muF (stR hd qT a fill fates i).2 m' ≤ 6 - ((i : Int) - fates.length))
  | 0 => by
    obtain ⟨fe, hfe⟩ : ∃ fe, fe = fe0 qT a fill := ⟨_, rfl⟩
    rw [stR_zero, ← hfe]
    rw [← hfe] at h
    have := h.mu
    exact ⟨M, m, hV, PgLe.refl _, h, Or.inr (by simp only; omega)⟩
  | i + 1 => by
    obtain ⟨M', m', g1, g2, g3, g4⟩ := stR_inv (fill := fill) (fates := fates) h ha hV i
    obtain ⟨M2, m2, e1, e2, e3, e4, e5⟩ := g3.turn ha g1 (fateF fates i)
    refine ⟨M2, m2, e1, g2.trans e2, e3, ?_⟩
    show (feTurn _ _).2.at = 6 ∨ muF (feTurn _ _).2 m2 ≤ _
    rcases g4 with g4 | g4
    · left; unfold feTurn; rw [if_pos g4]; exact g4
    · by_cases h6 : (stR hd qT a fill fates i).2.at = 6
      · left; unfold feTurn; rw [if_pos h6]; exact h6
      · by_cases hf : i < fates.length
        · right
          have := e3.mu
          omega
        · have : fateF fates i = 0 := if_neg hf
          have := e5 this h6
          right; omega
end Go.Proofs.YtohmmjaikhpcfaaGreat
