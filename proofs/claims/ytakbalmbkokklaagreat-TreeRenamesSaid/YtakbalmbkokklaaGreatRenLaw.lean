/- what the law TreeRenames asks of a rename: plain -/
import Derived.Test.YtakbalmbkokklaaGreatPkTwo
import Derived.Test.YtakbalmbkokklaaGreatTree7
namespace Esch
open Go Go.RowKit
theorem bind_err {α β : Type} {r : Res α} {f : α → Res β} {e : Int} (h : r.bind f = .err e) : r = .err e ∨ ∃ a, r = .ok a ∧ f a = .err e := by
  cases r with
  | ok a => exact Or.inr ⟨a, rfl, h⟩
  | err e' =>
    have h : (Res.err e' : Res β) = .err e := h
    cases h
    exact Or.inl rfl
theorem stopB_err {k e : Int} {b : Bool} (h : stopB k b = .err e) : e = k := by
  unfold stopB at h
  split at h
  · cases h; rfl
  · cases h
theorem rename_err {s : TrS} {p q : Nm} {e : Int} (h : s.rename p q = .err e) : e ≠ 0 := by
  unfold TrS.rename at h
  rcases bind_err h with h | ⟨x, -, h⟩
  · exact Go.Proofs.YtakbalmbkokklaaGreat.rplace_err (by decide) h
  rcases bind_err h with h | ⟨_, -, h⟩
  · rw [stopB_err h]; decide
  rcases bind_err h with h | ⟨y, -, h⟩
  · exact Go.Proofs.YtakbalmbkokklaaGreat.rplace_err (by decide) h
  split at h
  · cases h
  rcases bind_err h with h | ⟨_, -, h⟩
  · rw [stopB_err h]; decide
  rcases bind_err h with h | ⟨_, -, h⟩
  · split at h
    · rw [stopB_err h]; decide
    · split at h
      · rcases bind_err h with h | ⟨_, -, h⟩
        · rw [stopB_err h]; decide
        · rw [stopB_err h]; decide
      · rw [stopB_err h]; decide
  · cases h
theorem lsOk_len {s : TrS} {r : Res Int} {l : List Nm} (h : Go.Proofs.YtakbalmbkokklaaGreat.LsOk s r l) : l.length ≤ s.n.m.length := by
  cases r with
  | err e => have h : l = [] := h; subst h; simp
  | ok i =>
    obtain ⟨k, hk, rfl⟩ := (show Go.Proofs.YtakbalmbkokklaaGreat.NamesOfD s.n.m i l from h)
    rw [List.length_map, hk.1.length_eq]
    exact List.length_filter_le _ _
theorem ls_eq {s s' : TrS} (h : (s.n.m.map (·.1)).Nodup) (h' : (s'.n.m.map (·.1)).Nodup) {i : Int} {l l' : List Nm} (hk : s'.kind i = s.kind i) (hg : s.kind i = 1 → ∀ a, get s'.n.m (i, a) = get s.n.m (i, a))
    (hl : Go.Proofs.YtakbalmbkokklaaGreat.LsOk s (Go.Proofs.YtakbalmbkokklaaGreat.lstOf s (.ok i)) l) (hl' : Go.Proofs.YtakbalmbkokklaaGreat.LsOk s' (Go.Proofs.YtakbalmbkokklaaGreat.lstOf s' (.ok i)) l') : l' = l := by
  unfold Go.Proofs.YtakbalmbkokklaaGreat.lstOf at hl hl'
  simp only at hl hl'
  rw [hk] at hl'
  by_cases h1 : s.kind i ≠ 1
  · rw [if_pos h1] at hl hl'
    have e1 : l = [] := hl
    have e2 : l' = [] := hl'
    rw [e1, e2]
  · rw [if_neg h1] at hl hl'
    have h1 : s.kind i = 1 := by simpa using h1
    obtain ⟨k, hk1, rfl⟩ := (show Go.Proofs.YtakbalmbkokklaaGreat.NamesOfD s.n.m i l from hl)
    obtain ⟨k', hk2, rfl⟩ := (show Go.Proofs.YtakbalmbkokklaaGreat.NamesOfD s'.n.m i l' from hl')
    have nn : ∀ {m : List Ent}, (m.map (·.1)).Nodup → m.Nodup := fun {m} hm => List.Pairwise.of_map _ (fun a b h e => h (by rw [e])) hm
    have hp : (s'.n.m.filter (fun e => e.1.1 == i)).Perm (s.n.m.filter (fun e => e.1.1 == i)) := by
      refine (List.perm_ext_iff_of_nodup ((nn h').sublist List.filter_sublist) ((nn h).sublist List.filter_sublist)).2 fun e => ?_
      rw [List.mem_filter, List.mem_filter, mem_iff_get h e.1 e.2, mem_iff_get h' e.1 e.2]
      constructor
      · rintro ⟨h1', h2⟩
        refine ⟨?_, h2⟩
        have e1 : e.1.1 = i := by simpa using h2
        have e2 : e.1 = (i, e.1.2) := by rw [← e1]
        rw [e2] at h1' ⊢
        rw [← hg h1]; exact h1'
      · rintro ⟨h1', h2⟩
        refine ⟨?_, h2⟩
        have e1 : e.1.1 = i := by simpa using h2
        have e2 : e.1 = (i, e.1.2) := by rw [← e1]
        rw [e2] at h1' ⊢
        rw [hg h1]; exact h1'
    rw [sorted_unique ((hk2.1.trans hp).trans hk1.1.symm) hk2.2 hk1.2]
/-- what a rename that goes through comes to: x's inode stands at q; y's (0: none) stood there -/
structure RenK (s s' : TrS) (p q : Nm) (xi yi : Int) : Prop where
  good : Gs22 s' 1000
  p1 : s.resolve p = .ok xi
  q1 : s.resolve q = optRes (if yi = 0 then none else some yi)
  q2 : s'.resolve q = .ok xi
  at' : s'.t.at xi = s.t.at xi
  nd : (s.n.m.map (·.1)).Nodup
  ins : s.kind xi = 1 → ∀ a, get s'.n.m (xi, a) = get s.n.m (xi, a)
  xn : (s.t.at xi).ino = xi
  yn : yi ≠ 0 → (s.t.at yi).ino = yi
  same : xi = yi → s' = s
  gone : xi ≠ yi → s'.resolve p = .err 60
  back : xi ≠ yi → yi = 0 → ∃ s2, s'.rename q p = .ok s2 ∧ Gs22 s2 1000 ∧ s2.t = s.t ∧ s2.n.m.Perm s.n.m
theorem renK {s s' : TrS} {p q : Nm} (hg : Gs22 s 100) (h : s.rename p q = .ok s') : ∃ xi yi, xi ≠ 0 ∧ RenK s s' p q xi yi := by
  have hG := hg.good
  have hstep : Gs22 (s.step 6 0 p q).2 101 := hg.step 6 0 p q
  have hs' : (s.step 6 0 p q).2 = s' := by
    show ((s.rename p q).run s).2 = s'
    rw [h]; rfl
  rw [hs'] at hstep
  have hg' : Gs22 s' 1000 := ⟨hstep.good, hstep.len, Nat.le_trans hstep.nlen (by decide), hstep.rise⟩
  obtain ⟨x, y, hx, hy, hx0, hc⟩ := rename_ok h
  have hfx := find_some hx.ino.symm hx0
  have hp1 : s.resolve p = .ok x.ino := by rw [hx.res, hfx]; rfl
  have hq1 : s.resolve q = optRes (if y.ino = 0 then none else some y.ino) := by
    rw [hy.res]
    by_cases hy0 : y.ino = 0
    · rw [if_pos hy0, hG.zero (hy.ino ▸ hy0)]
    · rw [if_neg hy0, find_some hy.ino.symm hy0]
  have hent := fun {d n i} (hf : s.n.find d n = some i) => hG.ino i (hG.good.ent _ ((mem_iff_get hG.ok.n.nd (d, n) i).2 hf)).1
  refine ⟨x.ino, y.ino, hx0, ?_⟩
  rcases hc with ⟨he, rfl⟩ | ⟨hr, rfl⟩
  · have hfy := find_some hy.ino.symm (he ▸ hx0)
    exact ⟨hg', hp1, hq1, by rw [hy.res, hfy, ← he]; rfl, rfl, hG.ok.n.nd, fun _ _ => rfl, (hent hfx).1, fun h0 => (hent hfy).1, fun _ => rfl, fun hne => absurd he hne, fun hne => absurd he hne⟩
  · have hm := hG.renx hr
    obtain ⟨h1, h2⟩ := moved_spots hG hr hm
    have f1 : (s.renS x y).n.find y.dir y.name = some x.ino := find_some h1.ino.symm hx0
    have f2 : (s.renS x y).n.find x.dir x.name = none := hm.good.zero h2.ino.symm
    refine ⟨hg', hp1, hq1, by rw [h1.res, f1]; rfl, hm.at' _ hr.ne, hG.ok.n.nd, moved_in hG hr hm, (hent hfx).1, fun h0 => (hent (find_some hy.ino.symm h0)).1, fun e => absurd e hr.ne, fun _ => by rw [h2.res, f2]; rfl, fun _ hy0 => ?_⟩
    obtain ⟨s2, e2, g2, t2, p2⟩ := moved_twice hG hr hy0
    exact ⟨s2, e2, ⟨g2, by rw [t2]; exact hg.len, by rw [p2.length_eq]; exact Nat.le_trans hg.nlen (by decide), by rw [t2]; exact hg.rise⟩, t2, p2⟩
end Esch
