/- the names of one file, plain -/
import Derived.Test.YtakbalmbkokklaaGreatTreeGood3
namespace Esch
open Go

def linkE (l : List Nm) : List Ent := l.map fun a => (((1 : Int), a), (2 : Int))
/-- a file with these names, in the root -/
structure Lks (s : TrS) (l : List Nm) (z : Int) : Prop where
  good : GoodS s
  n : s.n.m = linkE l
  nd : l.Nodup
  nm : ∀ a ∈ l, nameL a = true
  has : ∀ i, s.t.has i = decide (i = 1 ∨ (i = 2 ∧ l ≠ []))
  at' : l ≠ [] → s.t.at 2 = ⟨2, 2, l.length, 0, z⟩
  next : s.t.next = 3
theorem linkE_mem {l : List Nm} {e : Ent} : e ∈ linkE l ↔ ∃ a ∈ l, e = ((1, a), 2) := by
  unfold linkE
  simp only [List.mem_map]
  constructor
  · rintro ⟨a, h, rfl⟩; exact ⟨a, h, rfl⟩
  · rintro ⟨a, h, rfl⟩; exact ⟨a, h, rfl⟩
def firstN : Nm := [102, 105, 114, 115, 116]
def lks0 : TrS := ((tr0.mk' (47 :: firstN) 2).run tr0).2
theorem lks0_e : ((tr0.mk' (47 :: firstN) 2).run tr0).1 = 0 := by kernel_rfl
theorem Lks.start : Lks lks0 [firstN] 0 := by
  refine ⟨tr0_good.mk' _ _, by kernel_rfl, by decide, fun a ha => by rw [List.mem_singleton] at ha; subst ha; decide, fun i => ?_, fun _ => by kernel_rfl, by kernel_rfl⟩
  have hm : lks0.t.m.map (·.1) = [1, 2] := by kernel_rfl
  cases h : lks0.t.has i with
  | true =>
    have := has_mem.1 h
    rw [hm] at this
    refine (decide_eq_true ?_).symm
    rcases List.mem_cons.1 this with e | e
    · exact Or.inl e
    · exact Or.inr ⟨List.mem_singleton.1 e, by simp⟩
  | false =>
    refine (decide_eq_false fun h2 => ?_).symm
    have : lks0.t.has i = true := has_mem.2 (by
      rw [hm]
      rcases h2 with e | ⟨e, -⟩
      · rw [e]; simp
      · rw [e]; simp)
    rw [h] at this
    cases this
theorem Lks.find {s : TrS} {l : List Nm} {z : Int} (h : Lks s l z) (a : Nm) : s.n.find 1 a = if a ∈ l then some 2 else none := by
  split
  · rename_i ha
    exact (mem_iff_get h.good.ok.n.nd _ _).1 (by rw [h.n]; exact linkE_mem.2 ⟨a, ha, rfl⟩)
  · rename_i ha
    refine get_none.2 fun e he e1 => ?_
    rw [h.n] at he
    obtain ⟨b, hb, rfl⟩ := linkE_mem.1 he
    exact ha (by rw [← (show b = a from congrArg Prod.snd e1)]; exact hb)
theorem Lks.dir {s : TrS} {l : List Nm} {z : Int} (h : Lks s l z) {d : Int} (hd : s.kind d = 1) : d = 1 := by
  have := kind_has hd
  rw [h.has, decide_eq_true_eq] at this
  rcases this with e | ⟨e, e2⟩
  · exact e
  · subst e
    unfold TrS.kind at hd
    rw [h.at' e2] at hd
    exact absurd hd (show ¬ (2 : Int) = 1 by decide)
theorem names_one {a : Nm} (h : nameL a = true) : namesOf (47 :: a) = some [a] := by
  have := namesOf_path (l := [a]) (by simp) (by simpa using h)
  rw [← this]
  congr 1
  simp [pathL, pathT]
theorem Lks.resolve {s : TrS} {l : List Nm} {z : Int} (h : Lks s l z) {a : Nm} (ha : a ∈ l) : s.resolve (47 :: a) = .ok 2 := by
  unfold TrS.resolve
  rw [names_one (h.nm a ha)]
  show s.res 1 [a] = _
  rw [res_one]
  refine ⟨?_, by rw [h.find, if_pos ha]⟩
  unfold TrS.kind
  rw [h.good.r1]
theorem Lks.count {s : TrS} {l : List Nm} {z : Int} (h : Lks s l z) : s.n.count 1 = l.length := by
  rw [h.good.ok.n.cnt, h.n, List.filter_eq_self.2 fun e he => by obtain ⟨a, -, rfl⟩ := linkE_mem.1 he; rfl]
  unfold linkE
  rw [List.length_map]
theorem Lks.kind {s : TrS} {l : List Nm} {z : Int} (h : Lks s l z) (hl : l ≠ []) : s.kind 2 = 2 := by
  unfold TrS.kind; rw [h.at' hl]
theorem Lks.le {s : TrS} {l : List Nm} {z : Int} (h : Lks s l z) (hl : l ≠ []) : l.length ≤ 8 := by
  have := (h.good.ok.t.x 2).l1
  rw [h.at' hl] at this
  have : (l.length : Int) ≤ 8 := this
  omega
/-- a place that is no name is no place -/
theorem Lks.bad {s : TrS} {l : List Nm} {z : Int} (h : Lks s l z) {a : Nm} (ha : nameL a = false) (r : Int) : ∃ e, s.place (47 :: a) r = .err e ∧ (r ≠ 0 → e ≠ 0) := by
  cases hp : s.place (47 :: a) r with
  | ok x =>
    exfalso
    have hs := place_ok hp
    obtain ⟨lq, hlq, hlq0, hrq, hnq, hsq⟩ := hs.ex
    have hd := h.dir hs.dir
    rw [hd] at hrq
    have := h.good.uniq _ lq.dropLast [] 1 (Nat.le_refl _) hrq rfl (by unfold TrS.kind; rw [h.good.r1])
    rw [this, List.nil_append] at hsq
    have h3 := (namesOf_some hlq).2.2
    rw [← hsq] at h3
    have h3 : 47 :: a = 47 :: x.name := by rw [h3]; simp [pathL, pathT]
    have h4 := hs.name
    rw [← (List.cons.inj h3).2, ha] at h4
    cases h4
  | err e =>
    refine ⟨e, rfl, fun hr he => ?_⟩
    subst he
    unfold TrS.place at hp
    cases hn : namesOf (47 :: a) with
    | none => rw [hn] at hp; cases hp
    | some lq =>
      rw [hn] at hp
      simp only at hp
      split at hp
      · cases hp; exact hr rfl
      · have hne : ∀ (k : List Nm) (d : Int), s.res d k ≠ .err 0 := by
          intro k
          induction k with
          | nil => intro d h; cases h
          | cons n k ih =>
            intro d h
            unfold TrS.res at h
            split at h
            · cases h
            · split at h
              · cases h
              · exact ih _ h
        cases hr2 : s.res 1 lq.dropLast with
        | err e => rw [hr2] at hp; cases hp; exact hne _ _ hr2
        | ok d =>
          rw [hr2] at hp
          unfold Res.bind at hp
          simp only at hp
          split at hp
          · cases hp
          · cases hp
theorem Lks.lnk_bad {s : TrS} {l : List Nm} {z : Int} (h : Lks s l z) {b a : Nm} (hb : b ∈ l) (ha : nameL a = false) : ∃ e, (s.lnk (47 :: b) (47 :: a)).run s = (e, s) ∧ e ≠ 0 := by
  obtain ⟨e, he, h0⟩ := h.bad ha 61
  refine ⟨e, ?_, h0 (by decide)⟩
  unfold TrS.lnk
  rw [h.resolve hb]
  show (Res.bind (stopB 63 (decide (s.kind 2 = 1))) fun _ => (s.place (47 :: a) 61).bind _).run s = _
  rw [h.kind (List.ne_nil_of_mem hb), he]
  rfl
theorem Lks.place {s : TrS} {l : List Nm} {z : Int} (h : Lks s l z) {a : Nm} (ha : nameL a = true) (r : Int) : s.place (47 :: a) r = .ok ⟨1, a, if a ∈ l then 2 else 0⟩ := by
  unfold TrS.place
  rw [names_one ha]
  show (if s.kind 1 ≠ 1 then (Res.err 62 : Res SpotS) else Res.ok ⟨1, a, (s.n.find 1 a).getD 0⟩) = _
  rw [if_neg (by unfold TrS.kind; rw [h.good.r1]; decide), h.find]
  split <;> rfl
theorem Lks.lnk_eq {s : TrS} {l : List Nm} {z : Int} (h : Lks s l z) {b a : Nm} (hb : b ∈ l) (ha : nameL a = true) :
    s.lnk (47 :: b) (47 :: a) = (stopB 61 (decide ((if a ∈ l then (2 : Int) else 0) ≠ 0))).bind fun _ => (stopB 66 (decide (8 ≤ (l.length : Int)))).bind fun _ => .ok (s.add ⟨1, a, if a ∈ l then 2 else 0⟩ 2) := by
  have hle := h.le (List.ne_nil_of_mem hb)
  unfold TrS.lnk
  rw [h.resolve hb]
  show (Res.bind (stopB 63 (decide (s.kind 2 = 1))) fun _ => (s.place (47 :: a) 61).bind _) = _
  rw [h.kind (List.ne_nil_of_mem hb), h.place ha]
  show (Res.bind (stopB 61 (decide ((if a ∈ l then (2 : Int) else 0) ≠ 0))) fun _ => (stopB 66 (decide (8 ≤ (s.t.at 2).links))).bind fun _ => (stopB 67 (decide (64 ≤ s.n.count 1))).bind fun _ => _) = _
  rw [h.at' (List.ne_nil_of_mem hb), h.count, decide_eq_false (show ¬ (64 : Int) ≤ l.length by omega)]
  rfl
theorem Lks.lnk_twice {s : TrS} {l : List Nm} {z : Int} (h : Lks s l z) {b a : Nm} (hb : b ∈ l) (ha : nameL a = true) (hm : a ∈ l) : (s.lnk (47 :: b) (47 :: a)).run s = (61, s) := by
  rw [h.lnk_eq hb ha, if_pos hm]
  rfl
theorem Lks.lnk_full {s : TrS} {l : List Nm} {z : Int} (h : Lks s l z) {b a : Nm} (hb : b ∈ l) (ha : nameL a = true) (hm : a ∉ l) (h8 : 8 ≤ l.length) : (s.lnk (47 :: b) (47 :: a)).run s = (66, s) := by
  rw [h.lnk_eq hb ha, if_neg hm, decide_eq_true (show (8 : Int) ≤ l.length by omega)]
  rfl
theorem Lks.lnk_ok {s : TrS} {l : List Nm} {z : Int} (h : Lks s l z) {b a : Nm} (hb : b ∈ l) (ha : nameL a = true) (hm : a ∉ l) (h8 : l.length < 8) : ∃ s', (s.lnk (47 :: b) (47 :: a)).run s = (0, s') ∧ Lks s' (l ++ [a]) z := by
  have hl0 := List.ne_nil_of_mem hb
  have hat := h.at' hl0
  obtain ⟨g1, g2, g3⟩ := h.good.lnkx (x := ⟨1, a, 0⟩) (i := 2) (by unfold TrS.kind; rw [h.good.r1]) ha (by show s.n.find 1 a = none; rw [h.find, if_neg hm]) (by show s.n.count 1 < 64; rw [h.count]; omega)
    (by rw [h.has]; exact decide_eq_true (Or.inr ⟨rfl, hl0⟩)) (by rw [h.kind hl0]; decide) (by rw [hat]; show (l.length : Int) < 8; omega)
  refine ⟨s.add ⟨1, a, 0⟩ 2, ?_, g1, ?_, ?_, ?_, fun i => ?_, fun _ => ?_, by rw [g3.next]; exact h.next⟩
  · rw [h.lnk_eq hb ha, if_neg hm, decide_eq_false (show ¬ (8 : Int) ≤ l.length by omega)]
    rfl
  · rw [g2, h.n]; unfold linkE; rw [List.map_append]; rfl
  · rw [List.nodup_append]
    exact ⟨h.nd, by simp, fun x hx y hy e => by rw [List.mem_singleton] at hy; subst hy; subst e; exact hm hx⟩
  · intro x hx
    rcases List.mem_append.1 hx with hx | hx
    · exact h.nm x hx
    · rw [List.mem_singleton] at hx; subst hx; exact ha
  · rw [g3.has i, h.has]
    by_cases e : i = 2
    · subst e
      rw [if_pos rfl, decide_eq_true]
      exact Or.inr ⟨rfl, by simp⟩
    · rw [if_neg (Ne.symm e)]
      congr 1
      exact propext ⟨fun h => h.elim Or.inl fun h => absurd h.1 e, fun h => h.elim Or.inl fun h => absurd h.1 e⟩
  · rw [g3.at' 2, if_pos rfl, hat, if_pos rfl, List.length_append, List.length_singleton]
    show (⟨2, 2, (l.length : Int) + 1, 0, z⟩ : InS) = _
    rw [show ((l.length + 1 : Nat) : Int) = (l.length : Int) + 1 by omega]
theorem Lks.trunc {s : TrS} {l : List Nm} {z : Int} (h : Lks s l z) {b : Nm} (hb : b ∈ l) {n : Int} (h0 : 0 ≤ n) (h1 : n ≤ 8192) : ∃ s', (s.trunc (47 :: b) n).run s = (0, s') ∧ Lks s' l n := by
  have hl0 := List.ne_nil_of_mem hb
  have hat := h.at' hl0
  have hc : (s.t.cut 2 n).1 = 0 := by
    unfold TabS.cut
    rw [if_neg (by rw [h.has, decide_eq_true (show (2 : Int) = 1 ∨ (2 : Int) = 2 ∧ l ≠ [] from Or.inr ⟨rfl, hl0⟩)]; decide), if_neg (by rw [hat]; show ¬ (2 : Int) = 1; decide), if_neg (by omega)]
  obtain ⟨g1, g2, g3⟩ := h.good.cutx hc
  refine ⟨⟨(s.t.cut 2 n).2, s.n⟩, ?_, g1, h.n, h.nd, h.nm, fun i => ?_, fun _ => ?_, by show (s.t.cut 2 n).2.next = 3; rw [g3.next]; exact h.next⟩
  · unfold TrS.trunc
    rw [h.resolve hb]
    show (Res.bind (stopB (s.t.cut 2 n).1 (decide ((s.t.cut 2 n).1 ≠ 0))) _).run s = _
    rw [hc]
    rfl
  · show (s.t.cut 2 n).2.has i = _
    rw [g3.has i, h.has]
    split
    · rename_i e
      exact (decide_eq_true (Or.inr ⟨e.symm, hl0⟩)).symm
    · rfl
  · show (s.t.cut 2 n).2.at 2 = _
    rw [g3.at' 2, if_pos rfl, hat]
    rfl
/-- the first name goes -/
theorem Lks.unlink {s : TrS} {a : Nm} {l : List Nm} {z : Int} (h : Lks s (a :: l) z) : ∃ s', (s.unlink (47 :: a)).run s = (0, s') ∧ Lks s' l z := by
  have hat := h.at' (by simp)
  have ha := h.nm a (by simp)
  have hk := h.kind (by simp)
  have hf : s.n.find 1 a = some 2 := by rw [h.find, if_pos (by simp)]
  have hnd := List.nodup_cons.1 h.nd
  obtain ⟨g1, g2, g3⟩ := h.good.dropx (x := ⟨1, a, 2⟩) hf fun e => absurd e (by show ¬ s.kind 2 = 1; rw [hk]; decide)
  have g3at := g3.at'
  have g3has := g3.has
  simp only [hat] at g3at g3has
  refine ⟨s.drop ⟨1, a, 2⟩, ?_, g1, ?_, hnd.2, fun x hx => h.nm x (List.mem_cons_of_mem _ hx), fun i => ?_, fun hl => ?_, by rw [g3.next]; exact h.next⟩
  · unfold TrS.unlink
    rw [h.place ha, if_pos (by simp)]
    show (Res.bind (stopB 60 (decide ((2 : Int) = 0))) fun _ => (stopB 63 (decide (s.kind 2 = 1))).bind fun _ => .ok (s.drop ⟨1, a, 2⟩)).run s = _
    rw [hk]
    rfl
  · rw [g2]
    show del s.n.m (1, a) = _
    rw [h.n]
    unfold linkE del
    rw [List.map_cons, List.filter_cons, if_neg (by simp)]
    refine List.filter_eq_self.2 fun e he => ?_
    obtain ⟨b, hb, rfl⟩ := List.mem_map.1 he
    refine decide_eq_true fun e => hnd.1 ?_
    rw [← (show b = a from congrArg Prod.snd e)]
    exact hb
  · rw [g3has, h.has]
    by_cases e : i = 2
    · subst e
      rw [if_pos rfl]
      cases l with
      | nil => rfl
      | cons b l =>
        have e1 : decide (((a :: b :: l).length : Int) ≠ 1) = true := decide_eq_true (by simp only [List.length_cons]; omega)
        rw [e1]
        exact (decide_eq_true (Or.inr ⟨rfl, by simp⟩)).symm
    · rw [if_neg (Ne.symm e)]
      congr 1
      exact propext ⟨fun h => h.elim Or.inl fun h => absurd h.1 e, fun h => h.elim Or.inl fun h => absurd h.1 e⟩
  · rw [g3at, if_pos rfl]
    have e1 : decide (((a :: l).length : Int) ≠ 1) = true := decide_eq_true (by
      cases l with
      | nil => exact absurd rfl hl
      | cons b l => simp only [List.length_cons]; omega)
    rw [e1, if_pos rfl, List.length_cons]
    show (⟨2, 2, ((l.length + 1 : Nat) : Int) - 1, 0, z⟩ : InS) = _
    rw [show ((l.length + 1 : Nat) : Int) - 1 = (l.length : Int) by omega]
theorem Lks.stat {s : TrS} {l : List Nm} {z : Int} (h : Lks s l z) {a : Nm} (ha : a ∈ l) : s.resolve (47 :: a) = .ok 2 ∧ s.t.at 2 = ⟨2, 2, l.length, 0, z⟩ := ⟨h.resolve ha, h.at' (List.ne_nil_of_mem ha)⟩
theorem Lks.fin {s : TrS} {z : Int} (h : Lks s [] z) : s.t.m.length = 1 := by
  have hp : (s.t.m.map (·.1)).Perm [1] := by
    refine (List.perm_ext_iff_of_nodup h.good.nd (by decide)).2 fun i => ?_
    rw [← has_mem, h.has, decide_eq_true_eq, List.mem_singleton]
    exact ⟨fun h => h.elim id fun h => absurd rfl h.2, Or.inl⟩
  have := hp.length_eq
  simpa using this
end Esch
