/- whatever is done, all hangs together: rename -/
import Derived.Test.YtakbalmbkokklaaGreatTreeGood2
namespace Esch
open Go

theorem find_drop {s : DirS} {d : Int} {n : Nm} (k : DK) : get (s.drop d n).2.m k = if (d, n) = k then none else get s.m k := by
  unfold DirS.drop
  split
  · rename_i h
    split
    · rename_i e; rw [← e]; exact h
    · rfl
  · exact get_del _ _ _
theorem count_drop {s : DirS} {d i : Int} {n : Nm} (hf : s.find d n = some i) (d' : Int) : (s.drop d n).2.count d' = if d = d' then s.count d - 1 else s.count d' := by
  rw [drop_eq hf, count_set]
theorem res_app (s : TrS) : ∀ (l k : List Nm) (d : Int), s.res d (l ++ k) = (s.res d l).bind fun j => s.res j k
  | [], _, _ => rfl
  | n :: l, k, d => by
    show s.res d (n :: (l ++ k)) = (s.res d (n :: l)).bind _
    have e : ∀ l', s.res d (n :: l') = if s.kind d ≠ 1 then .err 62 else match s.n.find d n with
      | none => .err 60
      | some i => s.res i l' := fun l' => rfl
    rw [e, e]
    by_cases hk : s.kind d ≠ 1
    · rw [if_pos hk, if_pos hk]; rfl
    · rw [if_neg hk, if_neg hk]
      cases s.n.find d n with
      | none => rfl
      | some j => exact res_app s l k j
theorem res_one {s : TrS} {d i : Int} {a : Nm} : s.res d [a] = .ok i ↔ s.kind d = 1 ∧ s.n.find d a = some i := by
  unfold TrS.res
  constructor
  · intro h
    split at h
    · cases h
    · rename_i hk
      cases e : s.n.find d a with
      | none => rw [e] at h; cases h
      | some j => rw [e] at h; cases h; exact ⟨by simpa using hk, rfl⟩
  · rintro ⟨h1, h2⟩
    rw [if_neg (by simpa using h1), h2]
    rfl
theorem res_snoc {s : TrS} {d i : Int} {l : List Nm} {a : Nm} (h : s.res d (l ++ [a]) = .ok i) : ∃ d', s.res d l = .ok d' ∧ s.kind d' = 1 ∧ s.n.find d' a = some i := by
  rw [res_app] at h
  obtain ⟨d', h1, h2⟩ := Res.bind_ok h
  exact ⟨d', h1, res_one.1 h2⟩
/-- a directory has one path -/
theorem GoodS.uniq {s : TrS} (h : GoodS s) : ∀ (n : Nat) (l k : List Nm) (i : Int), l.length ≤ n → s.res 1 l = .ok i → s.res 1 k = .ok i → s.kind i = 1 → l = k := by
  have hone : ∀ (l : List Nm) (a : Nm), s.res 1 (l ++ [a]) ≠ .ok 1 := fun l a hr => by
    obtain ⟨d, -, -, hf⟩ := res_snoc hr
    exact namesN_zero.1 h.good.one _ ((mem_iff_get h.ok.n.nd (d, a) 1).2 hf) rfl
  intro n
  induction n with
  | zero =>
    intro l k i hn h1 h2 hk
    obtain rfl : l = [] := List.length_eq_zero_iff.1 (by omega)
    have h1 : (Res.ok 1 : Res Int) = .ok i := h1
    cases h1
    rcases List.eq_nil_or_concat k with rfl | ⟨k', a, rfl⟩
    · rfl
    · rw [List.concat_eq_append] at h2
      exact absurd h2 (hone _ _)
  | succ n ih =>
    intro l k i hn h1 h2 hk
    rcases List.eq_nil_or_concat l with rfl | ⟨l', a, rfl⟩
    · have h1 : (Res.ok 1 : Res Int) = .ok i := h1
      cases h1
      rcases List.eq_nil_or_concat k with rfl | ⟨k', a, rfl⟩
      · rfl
      · rw [List.concat_eq_append] at h2
        exact absurd h2 (hone _ _)
    · rw [List.concat_eq_append] at h1 hn ⊢
      rcases List.eq_nil_or_concat k with rfl | ⟨k', b, rfl⟩
      · have h2 : (Res.ok 1 : Res Int) = .ok i := h2
        cases h2
        exact absurd h1 (hone _ _)
      · rw [List.concat_eq_append] at h2 ⊢
        obtain ⟨d1, r1, k1, f1⟩ := res_snoc h1
        obtain ⟨d2, r2, k2, f2⟩ := res_snoc h2
        have m1 := (mem_iff_get h.ok.n.nd (d1, a) i).2 f1
        have m2 := (mem_iff_get h.ok.n.nd (d2, b) i).2 f2
        have hi1 : i ≠ 1 := fun e => namesN_zero.1 h.good.one _ m1 e
        have e := namesN_one ((h.good.ino i (has_mem.1 (h.good.ent _ m1).1) hi1).2.2.2 hk) m1 m2 rfl rfl
        cases e
        rw [ih l' k' d1 (by rw [List.length_append, List.length_singleton] at hn; omega) r1 r2 k1]
/-- a walk that meets nothing bad goes on as it did -/
theorem res_keep {s s' : TrS} (bad : Int → Prop) (hk : ∀ d a j, s.kind d = 1 → s.n.find d a = some j → ¬ bad j → s'.kind d = 1 ∧ s'.n.find d a = some j) :
    ∀ (l : List Nm) (d0 d : Int), s.res d0 l = .ok d → (∀ pre suf j, l = pre ++ suf → pre ≠ [] → s.res d0 pre = .ok j → ¬ bad j) → s'.res d0 l = .ok d
  | [], _, _, h, _ => h
  | n :: l, d0, d, h, hb => by
    rw [show n :: l = [n] ++ l from rfl, res_app] at h ⊢
    obtain ⟨j, h1, h2⟩ := Res.bind_ok h
    obtain ⟨k1, f1⟩ := res_one.1 h1
    have hj := hb [n] l j rfl (by simp) h1
    rw [res_one.2 (hk d0 n j k1 f1 hj)]
    refine res_keep bad hk l j d h2 fun pre suf i e hp hr => hb (n :: pre) suf i (by rw [e]; rfl) (by simp) ?_
    rw [show n :: pre = [n] ++ pre from rfl, res_app, h1]
    exact hr
theorem res_rch {s : TrS} (hn : (s.n.m.map (·.1)).Nodup) : ∀ (l : List Nm) (d0 d : Int), s.res d0 l = .ok d → Rch s.n.m d0 → Rch s.n.m d
  | [], _, _, h, hr => by cases h; exact hr
  | n :: l, d0, d, h, hr => by
    rw [show n :: l = [n] ++ l from rfl, res_app] at h
    obtain ⟨j, h1, h2⟩ := Res.bind_ok h
    exact res_rch hn l j d h2 (.lead ((d0, n), j) ((mem_iff_get hn (d0, n) j).2 (res_one.1 h1).2) hr)
/-- one entry stands elsewhere -/
theorem GoodS.move {s : TrS} (h : GoodS s) {d d' i : Int} {n n' : Nm} (hf : s.n.find d n = some i) (hf' : s.n.find d' n' = none) (hd' : s.kind d' = 1) (hn' : nameL n' = true) (hc : s.n.count d' < 64 ∨ d' = d)
    (hR : s.kind i = 1 → Rch (del s.n.m (d, n) ++ [((d', n'), i)]) d') :
    GoodS ⟨s.t, (((s.n.drop d n).2).add d' n' i).2⟩ ∧ (((s.n.drop d n).2).add d' n' i).2.m = del s.n.m (d, n) ++ [((d', n'), i)] := by
  have hok : TrS.ok ⟨s.t, (((s.n.drop d n).2).add d' n' i).2⟩ := ⟨h.ok.t, (h.ok.n.drop d n).add d' n' i⟩
  have hmem := (mem_iff_get h.ok.n.nd (d, n) i).2 hf
  have hent := h.good.ent _ hmem
  have hin := h.ino i hent.1
  have hle := h.dlt hd'
  have hnx := h.next
  have hE : (((s.n.drop d n).2).add d' n' i).2.m = del s.n.m (d, n) ++ [((d', n'), i)] := by
    have h1 : (s.n.drop d n).2.find d' n' = none := by
      show get (s.n.drop d n).2.m (d', n') = none
      rw [find_drop]
      split
      · rfl
      · exact hf'
    have h2 : ((s.n.drop d n).2).count d' < 64 := by
      rw [count_drop hf]
      have h64 := h.ok.n.le d
      split
      · omega
      · rename_i e; rcases hc with hc | hc
        · exact hc
        · exact absurd hc.symm e
    unfold DirS.add
    rw [if_neg (by rw [hn']; decide), if_neg (by omega), if_neg (by rw [h1]; decide), if_neg (by omega)]
    show set (s.n.drop d n).2.m (d', n') i = _
    rw [set_miss _ _ _ (get_none.1 h1), drop_eq hf]
  generalize (((s.n.drop d n).2).add d' n' i).2 = D at *
  have hnn := namesN_del s.n.m (d, n) i h.ok.n.nd hf
  have hN : ∀ j, namesN (del s.n.m (d, n) ++ [((d', n'), i)]) j = namesN s.n.m j := fun j => by
    rw [namesN_snoc, ← hnn j]
    show (if i = j then _ else _) = _
    split <;> omega
  have hRd : Rch (del s.n.m (d, n) ++ [((d', n'), i)]) d' := by
    by_cases hk : s.kind i = 1
    · exact hR hk
    · refine Rch.perm (l := del s.n.m (d, n)) (fun e he => List.mem_append_left _ he) (Rch.cut (j := i) (fun e he e1 => hk (by rw [← e1]; exact (h.good.ent e he).2)) (fun e he e2 => mem_del.2 ⟨he, fun ek => e2 ?_⟩) (h.dir hd') (fun e => hk (by rw [← e]; exact hd')))
      have h1 := (mem_iff_get h.ok.n.nd e.1 e.2).1 he
      rw [ek] at h1
      have h2 : get s.n.m (d, n) = some i := hf
      rw [h2] at h1
      exact (Option.some.inj h1).symm
  have hRi : Rch (del s.n.m (d, n) ++ [((d', n'), i)]) i := .lead ((d', n'), i) (by simp) hRd
  have hRa : ∀ j, Rch s.n.m j → Rch (del s.n.m (d, n) ++ [((d', n'), i)]) j := fun j hr => Rch.via (fun e he => by
    by_cases ek : e.1 = (d, n)
    · refine Or.inr ?_
      have h1 := (mem_iff_get h.ok.n.nd e.1 e.2).1 he
      rw [ek] at h1
      have h2 : get s.n.m (d, n) = some i := hf
      rw [h2] at h1
      rw [← Option.some.inj h1]
      exact hRi
    · exact Or.inl (List.mem_append_left _ (mem_del.2 ⟨he, ek⟩))) hr
  refine ⟨⟨hok, ⟨fun e he => ?_, ?_, h.good.root, fun j hj h1 => ?_⟩, h.nd, h.r1, h.h1, h.ino, h.next, fun e he => ?_⟩, hE⟩
  · have he : e ∈ D.m := he
    rw [hE] at he
    rcases List.mem_append.1 he with he | he
    · exact h.good.ent e (mem_del.1 he).1
    · rw [List.mem_singleton] at he
      subst he
      exact ⟨hent.1, hd'⟩
  · show namesN D.m 1 = 0
    rw [hE, hN]
    exact h.good.one
  · show (s.t.at j).links = (namesN D.m j : Nat) ∧ (s.t.at j).links ≠ 0 ∧ Rch D.m j ∧ ((s.t.at j).kind = 1 → namesN D.m j = 1)
    rw [hE, hN]
    have g := h.good.ino j hj h1
    exact ⟨g.1, g.2.1, hRa j g.2.2.1, g.2.2.2⟩
  · have he : e ∈ D.m := he
    rw [hE] at he
    rcases List.mem_append.1 he with he | he
    · exact h.nm e (mem_del.1 he).1
    · rw [List.mem_singleton] at he
      subst he
      exact hn'
theorem inside_no {p q : Nm} {lp lq : List Nm} (hp : namesOf p = some lp) (hq : namesOf q = some lq) (h : insideOf (namesOf q) (namesOf p) = false) : ¬ ∃ suf, lq = lp ++ suf := by
  rintro ⟨suf, rfl⟩
  rw [hp, hq] at h
  unfold insideOf at h
  simp only [List.length_append, Bool.and_eq_false_iff, decide_eq_false_iff_not] at h
  rcases h with h | h
  · omega
  · exact h (by simp)
/-- what a rename comes to, that was no other one's: x goes to y; of y what was there is gone -/
structure RenOk (s : TrS) (p q : Nm) (x y : SpotS) : Prop where
  sx : SpotOk s p x
  sy : SpotOk s q y
  x0 : x.ino ≠ 0
  ne : x.ino ≠ y.ino
  ins : s.kind x.ino = 1 → insideOf (namesOf q) (namesOf p) = false
  free : y.ino = 0 → s.n.count y.dir < 64 ∨ y.dir = x.dir
  dir : y.ino ≠ 0 → s.kind x.ino = 1 → s.kind y.ino = 1 ∧ ¬ 0 < s.n.count y.ino
  file : y.ino ≠ 0 → s.kind x.ino ≠ 1 → s.kind y.ino ≠ 1
theorem rename_ok {s s' : TrS} {p q : Nm} (h : s.rename p q = .ok s') : ∃ x y, SpotOk s p x ∧ SpotOk s q y ∧ x.ino ≠ 0 ∧ ((x.ino = y.ino ∧ s' = s) ∨ (RenOk s p q x y ∧ s' = s.renS x y)) := by
  unfold TrS.rename at h
  obtain ⟨x, hx, h⟩ := Res.bind_ok h
  obtain ⟨_, h1, h⟩ := Res.bind_ok h
  obtain ⟨y, hy, h⟩ := Res.bind_ok h
  have h1 := stopB_ok h1
  simp only [decide_eq_false_iff_not] at h1
  have hx := place_ok hx
  have hy := place_ok hy
  refine ⟨x, y, hx, hy, h1, ?_⟩
  split at h
  · rename_i e
    cases h
    exact Or.inl ⟨e, rfl⟩
  · rename_i e
    obtain ⟨_, h2, h⟩ := Res.bind_ok h
    obtain ⟨_, h3, h⟩ := Res.bind_ok h
    have h2 := stopB_ok h2
    cases h
    refine Or.inr ⟨⟨hx, hy, h1, e, fun hk => ?_, fun hy0 => ?_, fun hy0 hk => ?_, fun hy0 hk => ?_⟩, rfl⟩
    · rw [decide_eq_true hk, Bool.true_and] at h2
      exact h2
    · rw [if_pos hy0] at h3
      have h3 := stopB_ok h3
      simp only [Bool.and_eq_false_iff, decide_eq_false_iff_not, ne_eq, Decidable.not_not, Int.not_le] at h3
      exact h3
    · rw [if_neg hy0, if_pos hk] at h3
      obtain ⟨_, h4, h5⟩ := Res.bind_ok h3
      have h4 := stopB_ok h4
      have h5 := stopB_ok h5
      simp only [decide_eq_false_iff_not, ne_eq, Decidable.not_not] at h4 h5
      exact ⟨h4, h5⟩
    · rw [if_neg hy0, if_neg hk] at h3
      have h3 := stopB_ok h3
      simpa using h3
/-- what the tree is behind a rename -/
structure Moved (s s' : TrS) (p q : Nm) (x y : SpotS) : Prop where
  good : GoodS s'
  find : ∀ k, get s'.n.m k = if (y.dir, y.name) = k then some x.ino else if (x.dir, x.name) = k then none else get s.n.m k
  at' : ∀ j, j ≠ y.ino → s'.t.at j = s.t.at j
  has : ∀ j, j ≠ y.ino → s'.t.has j = s.t.has j
  tab : y.ino = 0 → s'.t = s.t
  path : ∀ l, namesOf q = some l → s'.res 1 l.dropLast = .ok y.dir
  ydir : s'.kind y.dir = 1
  noout : y.ino ≠ 0 → ∀ e ∈ s.n.m, e.1.1 ≠ y.ino
  xy : y.ino = 0 ∨ y.dir ≠ y.ino ∧ x.dir ≠ y.ino
theorem GoodS.renx {s : TrS} (h : GoodS s) {p q : Nm} {x y : SpotS} (hr : RenOk s p q x y) : Moved s (s.renS x y) p q x y := by
  obtain ⟨hx, hy, hx0, hne, hins, hfree, hdir, hfile⟩ := hr
  have fx := find_some hx.ino.symm hx0
  have mx := (mem_iff_get h.ok.n.nd (x.dir, x.name) x.ino).2 fx
  have hkey : (y.dir, y.name) ≠ (x.dir, x.name) := fun e => hne (by
    have e1 : y.dir = x.dir := congrArg Prod.fst e
    have e2 : y.name = x.name := congrArg Prod.snd e
    rw [hx.ino, hy.ino, e1, e2])
  have hnoout : y.ino ≠ 0 → ∀ e ∈ s.n.m, e.1.1 ≠ y.ino := fun hy0 e he e1 => by
    by_cases hk : s.kind x.ino = 1
    · exact count_zero h.ok.n (hdir hy0 hk).2 e he e1
    · exact hfile hy0 hk (by rw [← e1]; exact (h.good.ent e he).2)
  have hxy : y.ino = 0 ∨ y.dir ≠ y.ino ∧ x.dir ≠ y.ino := by
    by_cases hy0 : y.ino = 0
    · exact Or.inl hy0
    · exact Or.inr ⟨hnoout hy0 _ ((mem_iff_get h.ok.n.nd (y.dir, y.name) y.ino).2 (find_some hy.ino.symm hy0)), hnoout hy0 _ mx⟩
  obtain ⟨s1, hs1⟩ : ∃ s1, s1 = if y.ino ≠ 0 then s.drop y else s := ⟨_, rfl⟩
  have hren : s.renS x y = ⟨s1.t, (((s1.n.drop x.dir x.name).2).add y.dir y.name x.ino).2⟩ := by rw [hs1]; rfl
  rw [hren]
  have hA : GoodS s1 ∧ (∀ k, get s1.n.m k = if (y.dir, y.name) = k then none else get s.n.m k) ∧ (∀ j, j ≠ y.ino → s1.t.at j = s.t.at j) ∧ (∀ j, j ≠ y.ino → s1.t.has j = s.t.has j) ∧ (y.ino = 0 → s1.t = s.t) ∧ (s1.n.count y.dir < 64 ∨ y.dir = x.dir) := by
    by_cases hy0 : y.ino = 0
    · rw [if_neg (by simpa using hy0)] at hs1
      subst hs1
      refine ⟨h, fun k => ?_, fun _ _ => rfl, fun _ _ => rfl, fun _ => rfl, hfree hy0⟩
      split
      · rename_i e
        rw [← e]
        exact h.zero (hy.ino ▸ hy0)
      · rfl
    · rw [if_pos hy0] at hs1
      subst hs1
      have fy := find_some hy.ino.symm hy0
      obtain ⟨g1, g2, g3⟩ := h.dropx fy fun hk => by
        by_cases hkx : s.kind x.ino = 1
        · exact (hdir hy0 hkx).2
        · exact absurd hk (hfile hy0 hkx)
      refine ⟨g1, fun k => ?_, fun j hj => ?_, fun j hj => ?_, fun e => absurd e hy0, ?_⟩
      · rw [g2]; exact get_del _ _ _
      · rw [g3.at' j, if_neg (Ne.symm hj)]
      · rw [g3.has j, if_neg (Ne.symm hj)]
      · rw [g2, count_set, if_pos rfl]
        have := h.ok.n.le y.dir
        exact Or.inl (by omega)
  obtain ⟨g1, g2, g3, g4, g5, g6⟩ := hA
  have fx1 : s1.n.find x.dir x.name = some x.ino := by
    show get s1.n.m _ = _
    rw [g2, if_neg hkey]
    exact fx
  have fy1 : s1.n.find y.dir y.name = none := by
    show get s1.n.m _ = _
    rw [g2, if_pos rfl]
  have kk : ∀ d, s.kind d = 1 → d ≠ y.ino → s1.kind d = 1 := fun d hd hne => by
    unfold TrS.kind at *
    rw [g3 d hne]
    exact hd
  have hyd : y.dir ≠ y.ino := by
    rcases hxy with h0 | h0
    · rw [h0]
      have := h.dlt hy.dir
      omega
    · exact h0.1
  have hyk : s1.kind y.dir = 1 := kk _ hy.dir hyd
  -- the entries, and how paths go on in them
  obtain ⟨lq, hlq, hlq0, hrq, hnq, hsq⟩ := hy.ex
  obtain ⟨lp, hlp, hlp0, hrp, hnp, hsp⟩ := hx.ex
  have hlast : s.res 1 lp = .ok x.ino := by
    rw [← hsp, res_app, hrp]
    exact res_one.2 ⟨hx.dir, fx⟩
  have hfin : ∀ n' : DirS, (∀ k, get n'.m k = if (y.dir, y.name) = k then some x.ino else if (x.dir, x.name) = k then none else get s.n.m k) → (⟨s1.t, n'⟩ : TrS).res 1 lq.dropLast = .ok y.dir := fun n' hn' => by
    refine res_keep (s := s) (fun j => j = x.ino ∨ (y.ino ≠ 0 ∧ j = y.ino)) (fun d a j hk hf hb => ⟨?_, ?_⟩) lq.dropLast 1 y.dir hrq (fun pre suf j e hp hr hb => ?_)
    · refine kk d hk fun e => ?_
      have hm := (mem_iff_get h.ok.n.nd (d, a) j).2 hf
      by_cases hy0 : y.ino = 0
      · have := (h.dlt hk).1; omega
      · exact hnoout hy0 _ hm e
    · show get n'.m (d, a) = some j
      have hf : get s.n.m (d, a) = some j := hf
      rw [hn', if_neg, if_neg]
      · exact hf
      · intro e
        rw [← e] at hf
        have fx : get s.n.m (x.dir, x.name) = some x.ino := fx
        rw [fx] at hf
        exact hb (Or.inl (Option.some.inj hf).symm)
      · intro e
        by_cases hy0 : y.ino = 0
        · have : get s.n.m (y.dir, y.name) = none := h.zero (hy.ino ▸ hy0)
          rw [← e, this] at hf
          cases hf
        · have : get s.n.m (y.dir, y.name) = some y.ino := find_some hy.ino.symm hy0
          rw [← e, this] at hf
          exact hb (Or.inr ⟨hy0, (Option.some.inj hf).symm⟩)
    · rw [e, res_app, hr] at hrq
      have hsuf : s.res j suf = .ok y.dir := hrq
      have hjk : s.kind j = 1 := by
        cases suf with
        | nil => cases hsuf; exact hy.dir
        | cons a suf =>
          rw [show a :: suf = [a] ++ suf from rfl, res_app] at hsuf
          obtain ⟨j2, h1, -⟩ := Res.bind_ok hsuf
          exact (res_one.1 h1).1
      rcases hb with hb | ⟨hy0, hb⟩
      · subst hb
        have := h.uniq _ pre lp _ (Nat.le_refl _) hr hlast hjk
        subst this
        exact inside_no hlp hlq (hins hjk) ⟨suf ++ [y.name], by rw [← hsq, e, List.append_assoc]⟩
      · subst hb
        cases suf with
        | nil =>
          have hsuf : (Res.ok y.ino : Res Int) = .ok y.dir := hsuf
          injection hsuf with e1
          exact hyd e1.symm
        | cons a suf =>
          rw [show a :: suf = [a] ++ suf from rfl, res_app] at hsuf
          obtain ⟨j2, h1, -⟩ := Res.bind_ok hsuf
          exact hnoout hy0 _ ((mem_iff_get h.ok.n.nd (_, a) j2).2 (res_one.1 h1).2) rfl
  have hget : ∀ k, get (del s1.n.m (x.dir, x.name) ++ [((y.dir, y.name), x.ino)]) k = if (y.dir, y.name) = k then some x.ino else if (x.dir, x.name) = k then none else get s.n.m k := fun k => by
    have hno : get (del s1.n.m (x.dir, x.name)) (y.dir, y.name) = none := by rw [get_del, g2, if_pos rfl]; split <;> rfl
    rw [← set_miss _ _ _ (get_none.1 hno), get_set, get_del, g2]
    split
    · rfl
    · split
      · rfl
      · rfl
  have hnd : ((del s1.n.m (x.dir, x.name) ++ [((y.dir, y.name), x.ino)]).map (·.1)).Nodup := by
    have hno : get (del s1.n.m (x.dir, x.name)) (y.dir, y.name) = none := by rw [get_del, g2, if_pos rfl]; split <;> rfl
    rw [← set_miss _ _ _ (get_none.1 hno)]
    exact set_nodup _ _ (g1.ok.n.nd.sublist (List.filter_sublist.map _))
  obtain ⟨m1, m2⟩ := g1.move fx1 fy1 hyk hy.name g6 fun _ => res_rch (s := ⟨s1.t, ⟨del s1.n.m (x.dir, x.name) ++ [((y.dir, y.name), x.ino)], []⟩⟩) hnd lq.dropLast 1 y.dir (hfin _ hget) .one
  have hg2 : ∀ k, get (((s1.n.drop x.dir x.name).2).add y.dir y.name x.ino).2.m k = if (y.dir, y.name) = k then some x.ino else if (x.dir, x.name) = k then none else get s.n.m k := fun k => by rw [m2]; exact hget k
  exact ⟨m1, hg2, g3, g4, g5, fun l hl => by
    rw [hlq] at hl
    cases hl
    exact hfin _ hg2, hyk, hnoout, hxy⟩
theorem GoodS.rename {s : TrS} (h : GoodS s) (p q : Nm) : GoodS (((s.rename p q).run s).2) := by
  refine run_all h ?_
  cases hr : s.rename p q with
  | err e => trivial
  | ok s' =>
    show GoodS s'
    obtain ⟨x, y, -, -, -, ⟨-, rfl⟩ | ⟨h1, rfl⟩⟩ := rename_ok hr
    · exact h
    · exact (h.renx h1).good
/-- a step of law 22 -/
def TrS.step (s : TrS) (k z : Int) (p q : Nm) : Int × TrS :=
  if k = 1 then (s.mk' p 1).run s else if k = 2 then (s.rmdir p).run s else if k = 3 then (s.mk' p 2).run s else if k = 4 then (s.lnk p q).run s
  else if k = 5 then (s.unlink p).run s else if k = 6 then (s.rename p q).run s else if k = 7 then (s.trunc p z).run s else (0, s)
theorem GoodS.step {s : TrS} (h : GoodS s) (k z : Int) (p q : Nm) : GoodS (s.step k z p q).2 := by
  unfold TrS.step
  split; · exact h.mk' _ _
  split; · exact h.rmdir _
  split; · exact h.mk' _ _
  split; · exact h.lnk _ _
  split; · exact h.unlink _
  split; · exact h.rename _ _
  split; · exact h.trunc _ _
  exact h
end Esch
