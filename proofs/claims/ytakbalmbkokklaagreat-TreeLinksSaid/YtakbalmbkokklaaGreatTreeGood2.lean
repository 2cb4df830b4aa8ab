/- whatever is done, all hangs together: make, link, drop, truncate -/
import Derived.Test.YtakbalmbkokklaaGreatTreeGood
namespace Esch
open Go

theorem make_eq {s : TabS} {k : Int} (h : (s.make k).1.2 = 0) : (k = 1 ∨ k = 2) ∧ s.m.length < 64 ∧ s.next < 2147483647 ∧ s.make k = ((s.next, 0), ⟨set s.m s.next ⟨s.next, k, 0, 0, 0⟩, s.next + 1⟩) := by
  unfold TabS.make at h ⊢
  split at h
  · exact absurd h (show ¬ (1 : Int) = 0 by decide)
  · split at h
    · exact absurd h (show ¬ (67 : Int) = 0 by decide)
    · rename_i h1 h2
      rw [if_neg h1, if_neg h2]
      exact ⟨by omega, by omega, by omega, rfl⟩
/-- a new inode with its one name -/
theorem GoodS.mkx {s : TrS} (h : GoodS s) {x : SpotS} (hd : s.kind x.dir = 1) (hnm : nameL x.name = true) (hf : s.n.find x.dir x.name = none) (hc : s.n.count x.dir < 64) {k : Int} (hm : (s.t.make k).1.2 = 0) :
    GoodS (TrS.add ⟨(s.t.make k).2, s.n⟩ x (s.t.make k).1.1) ∧ (TrS.add ⟨(s.t.make k).2, s.n⟩ x (s.t.make k).1.1).n = ⟨s.n.m ++ [((x.dir, x.name), s.t.next)], set s.n.c x.dir (s.n.count x.dir + 1)⟩ ∧
      (∀ j, (TrS.add ⟨(s.t.make k).2, s.n⟩ x (s.t.make k).1.1).t.at j = if s.t.next = j then ⟨s.t.next, k, 1, 0, 0⟩ else s.t.at j) ∧
      (∀ j, (TrS.add ⟨(s.t.make k).2, s.n⟩ x (s.t.make k).1.1).t.has j = if s.t.next = j then true else s.t.has j) ∧
      (TrS.add ⟨(s.t.make k).2, s.n⟩ x (s.t.make k).1.1).t.next = s.t.next + 1 := by
  obtain ⟨hk, hlen, hnx, he⟩ := make_eq hm
  have hok := TrS.ok.add (s := ⟨(s.t.make k).2, s.n⟩) ⟨h.ok.t.make k, h.ok.n⟩ x (s.t.make k).1.1
  rw [he] at hok ⊢
  simp only at hok ⊢
  have h0 : s.t.has s.t.next = false := by
    cases e : s.t.has s.t.next with
    | false => rfl
    | true => have := (h.ino _ e).2.2.1; omega
  have h2 : 1 < s.t.next := (h.ino 1 h.h1).2.2.1
  obtain ⟨T1, hT1⟩ : ∃ T1 : TabS, T1 = ⟨set s.t.m s.t.next ⟨s.t.next, k, 0, 0, 0⟩, s.t.next + 1⟩ := ⟨_, rfl⟩
  rw [← hT1] at hok ⊢
  have hat1 : ∀ j, T1.at j = if s.t.next = j then ⟨s.t.next, k, 0, 0, 0⟩ else s.t.at j := fun j => by rw [hT1, at_set]
  have hhas1 : ∀ j, T1.has j = if s.t.next = j then true else s.t.has j := fun j => by rw [hT1, has_set _ _ _ _ _ s.t.next]
  have hnx1 : T1.next = s.t.next + 1 := by rw [hT1]
  have hl := link_eq (s := T1) (i := s.t.next) (by' := 1) (by rw [hhas1, if_pos rfl]) (Or.inl rfl) (by omega) (by rw [hat1, if_pos rfl]; exact ⟨(by decide : (0 : Int) ≤ 0 + 1), (by decide : (0 : Int) + 1 ≤ 8)⟩)
  rw [hat1, if_pos rfl] at hl
  have hu := keep_upd (s := T1) (by rw [hT1]; exact set_nodup _ _ h.nd) ⟨s.t.next, k, 0 + 1, 0, 0⟩ (decide ((1 : Int) < 0))
  have hae := add_eq h hnm (h.dlt hd) (i := s.t.next) (by omega) hf hc
  unfold TrS.add at hok ⊢
  rw [hl] at hok ⊢
  simp only at hok hae ⊢
  rw [hae] at hok ⊢
  generalize T1.keep ⟨s.t.next, k, 0 + 1, 0, 0⟩ (decide ((1 : Int) < 0)) = T2 at *
  have e1 : (!(decide ((1 : Int) < 0) && decide ((0 : Int) + 1 + 0 = 0))) = true := by decide
  have hat : ∀ j, T2.at j = if s.t.next = j then ⟨s.t.next, k, 1, 0, 0⟩ else s.t.at j := fun j => by
    have := hu.at' j
    simp only [e1, if_true] at this
    rw [this, hat1]
    split <;> rfl
  have hhas : ∀ j, T2.has j = if s.t.next = j then true else s.t.has j := fun j => by
    have := hu.has j
    simp only [e1] at this
    rw [this, hhas1]
    split <;> rfl
  have hnx2 : T2.next = s.t.next + 1 := by rw [hu.next, hnx1]
  have hn0 : namesN s.n.m s.t.next = 0 := namesN_zero.2 fun e he e2 => by
    have := (h.good.ent e he).1
    rw [e2, h0] at this
    exact absurd this (by decide)
  have hkind : ∀ d, s.kind d = 1 → (T2.at d).kind = 1 := fun d hd => by
    rw [hat, if_neg (fun e => by have := kind_has hd; rw [← e, h0] at this; exact absurd this (by decide))]
    exact hd
  refine ⟨⟨hok, ⟨fun e he => ?_, ?_, ?_, fun i hi h1 => ?_⟩, hu.nd, ?_, ?_, fun i hi => ?_, ?_, fun e he => ?_⟩, rfl, hat, hhas, hnx2⟩
  · rcases List.mem_append.1 he with he | he
    · have := h.good.ent e he
      exact ⟨by rw [hhas]; split; · rfl
                · exact this.1, hkind _ this.2⟩
    · rw [List.mem_singleton] at he
      subst he
      exact ⟨by rw [hhas, if_pos rfl], hkind _ hd⟩
  · show namesN (s.n.m ++ _) 1 = 0
    rw [namesN_snoc, if_neg (by show ¬ s.t.next = 1; omega)]
    exact h.good.one
  · show (T2.at 1).links ≠ 0
    rw [hat, if_neg (by omega), h.r1]
    decide
  · have hi : T2.has i = true := has_mem.2 hi
    show (T2.at i).links = (namesN (s.n.m ++ _) i : Nat) ∧ _ ∧ Rch (s.n.m ++ _) i ∧ ((T2.at i).kind = 1 → namesN (s.n.m ++ _) i = 1)
    rw [namesN_snoc, hat]
    by_cases e : s.t.next = i
    · subst e
      rw [if_pos rfl, if_pos rfl, hn0]
      refine ⟨rfl, (by decide : (1 : Int) ≠ 0), .lead ((x.dir, x.name), s.t.next) (by simp) ((h.dir hd).perm fun e he => List.mem_append_left _ he), fun _ => rfl⟩
    · rw [if_neg e, if_neg e]
      rw [hhas, if_neg e] at hi
      obtain ⟨g1, g2, g3, g4⟩ := h.good.ino i (has_mem.1 hi) h1
      exact ⟨g1, g2, g3.perm fun e he => List.mem_append_left _ he, g4⟩
  · show T2.at 1 = _
    rw [hat, if_neg (by omega), h.r1]
  · show T2.has 1 = true
    rw [hhas, if_neg (by omega), h.h1]
  · show (T2.at i).ino = i ∧ 1 ≤ i ∧ i < T2.next ∧ (T2.at i).opens = 0
    have hi : T2.has i = true := hi
    rw [hhas] at hi
    rw [hat, hnx2]
    by_cases e : s.t.next = i
    · subst e
      rw [if_pos rfl]
      exact ⟨rfl, by omega, by omega, rfl⟩
    · rw [if_neg e] at hi ⊢
      have := h.ino i hi
      exact ⟨this.1, this.2.1, by omega, this.2.2.2⟩
  · show T2.next ≤ _
    omega
  · rcases List.mem_append.1 he with he | he
    · exact h.nm e he
    · rw [List.mem_singleton] at he
      subst he
      exact hnm
theorem GoodS.mk' {s : TrS} (h : GoodS s) (p : Nm) (k : Int) : GoodS (((s.mk' p k).run s).2) := by
  refine run_all h ?_
  cases hr : s.mk' p k with
  | err e => trivial
  | ok s' =>
    show GoodS s'
    unfold TrS.mk' at hr
    obtain ⟨x, hx, hr⟩ := Res.bind_ok hr
    obtain ⟨_, h1, hr⟩ := Res.bind_ok hr
    obtain ⟨_, h2, hr⟩ := Res.bind_ok hr
    obtain ⟨_, h3, hr⟩ := Res.bind_ok hr
    have h1 := stopB_ok h1
    have h2 := stopB_ok h2
    have h3 := stopB_ok h3
    simp only [decide_eq_false_iff_not, ne_eq, Decidable.not_not, Int.not_le] at h1 h2 h3
    cases hr
    have hs := place_ok hx
    exact (h.mkx hs.dir hs.name (h.zero (hs.ino ▸ h1)) h2 h3).1
/-- one name more of a file -/
theorem GoodS.lnkx {s : TrS} (h : GoodS s) {x : SpotS} {i : Int} (hd : s.kind x.dir = 1) (hnm : nameL x.name = true) (hf : s.n.find x.dir x.name = none) (hc : s.n.count x.dir < 64) (hi : s.t.has i = true) (hk : s.kind i ≠ 1) (hl : (s.t.at i).links < 8) :
    GoodS (s.add x i) ∧ (s.add x i).n = ⟨s.n.m ++ [((x.dir, x.name), i)], set s.n.c x.dir (s.n.count x.dir + 1)⟩ ∧ TabUpd s.t (s.add x i).t i { s.t.at i with links := (s.t.at i).links + 1 } true := by
  have hok := TrS.ok.add h.ok x i
  have hi1 : i ≠ 1 := fun e => hk (by unfold TrS.kind; rw [e, h.r1])
  have hin := h.ino i hi
  have hgi := h.good.ino i (has_mem.1 hi) hi1
  have hle := h.dlt hd
  have hl0 := (h.ok.t.x i).l0
  have hnx := h.next
  have hl := link_eq (s := s.t) (i := i) (by' := 1) hi (Or.inl rfl) hi1 ⟨by omega, by omega⟩
  obtain ⟨X, hX⟩ : ∃ X : InS, X = { s.t.at i with links := (s.t.at i).links + 1 } := ⟨_, rfl⟩
  have hXi : X.ino = i := by rw [hX]; exact hin.1
  rw [← hX] at hl ⊢
  have hu := keep_upd (s := s.t) h.nd X (decide ((1 : Int) < 0))
  have e1 : ∀ z : Bool, (!(decide ((1 : Int) < 0) && z)) = true := fun z => by cases z <;> decide
  rw [e1, hXi] at hu
  have hae := add_eq h hnm (h.dlt hd) (i := i) (by omega) hf hc
  unfold TrS.add at hok ⊢
  rw [hl] at hok ⊢
  rw [hae] at hok ⊢
  simp only at hok ⊢
  generalize s.t.keep X (decide ((1 : Int) < 0)) = T2 at *
  have hat : ∀ j, T2.at j = if i = j then X else s.t.at j := fun j => by rw [hu.at' j]; rfl
  have hhas : ∀ j, T2.has j = s.t.has j := fun j => by
    rw [hu.has j]
    split
    · rename_i e; rw [← e, hi]
    · rfl
  have hkind : ∀ d, (T2.at d).kind = (s.t.at d).kind := fun d => by
    rw [hat]
    split
    · rename_i e; rw [← e, hX]
    · rfl
  refine ⟨⟨hok, ⟨fun e he => ?_, ?_, ?_, fun j hj h1 => ?_⟩, hu.nd, ?_, ?_, fun j hj => ?_, ?_, fun e he => ?_⟩, trivial, hu⟩
  · show T2.has e.2 = true ∧ (T2.at e.1.1).kind = 1
    rw [hhas, hkind]
    rcases List.mem_append.1 he with he | he
    · exact h.good.ent e he
    · rw [List.mem_singleton] at he
      subst he
      exact ⟨hi, hd⟩
  · show namesN (s.n.m ++ _) 1 = 0
    rw [namesN_snoc, if_neg hi1]
    exact h.good.one
  · show (T2.at 1).links ≠ 0
    rw [hat, if_neg hi1, h.r1]
    decide
  · have hj : s.t.has j = true := by rw [← hhas]; exact has_mem.2 hj
    obtain ⟨g1, g2, g3, g4⟩ := h.good.ino j (has_mem.1 hj) h1
    have hR : Rch (s.n.m ++ [((x.dir, x.name), i)]) j := g3.perm fun e he => List.mem_append_left _ he
    show (T2.at j).links = (namesN (s.n.m ++ _) j : Nat) ∧ (T2.at j).links ≠ 0 ∧ Rch (s.n.m ++ _) j ∧ ((T2.at j).kind = 1 → namesN (s.n.m ++ _) j = 1)
    rw [namesN_snoc, hkind, hat]
    by_cases e : i = j
    · subst e
      rw [if_pos rfl, if_pos rfl]
      exact ⟨by rw [hX]; show (s.t.at i).links + 1 = _; rw [g1]; rfl, by rw [hX]; show (s.t.at i).links + 1 ≠ 0; omega, hR, fun e => absurd e hk⟩
    · rw [if_neg e, if_neg e]
      exact ⟨g1, g2, hR, g4⟩
  · show T2.at 1 = _
    rw [hat, if_neg hi1, h.r1]
  · show T2.has 1 = true
    rw [hhas, h.h1]
  · show (T2.at j).ino = j ∧ 1 ≤ j ∧ j < T2.next ∧ (T2.at j).opens = 0
    have hj : s.t.has j = true := by rw [← hhas]; exact hj
    have := h.ino j hj
    rw [hat, hu.next]
    split
    · rename_i e
      subst e
      rw [hX]
      exact this
    · exact this
  · show T2.next ≤ _
    rw [hu.next]
    exact h.next
  · rcases List.mem_append.1 he with he | he
    · exact h.nm e he
    · rw [List.mem_singleton] at he
      subst he
      exact hnm
theorem GoodS.res_has {s : TrS} (h : GoodS s) : ∀ (l : List Nm) (d i : Int), s.t.has d = true → s.res d l = .ok i → s.t.has i = true
  | [], d, i, hd, hr => by
    cases hr
    exact hd
  | n :: l, d, i, hd, hr => by
    unfold TrS.res at hr
    split at hr
    · cases hr
    · cases e : s.n.find d n with
      | none => rw [e] at hr; cases hr
      | some j =>
        rw [e] at hr
        exact res_has h l j i (h.good.ent _ ((mem_iff_get h.ok.n.nd (d, n) j).2 e)).1 hr
theorem resolve_ok {s : TrS} {p : Nm} {i : Int} (h : s.resolve p = .ok i) : ∃ l, namesOf p = some l ∧ s.res 1 l = .ok i := by
  unfold TrS.resolve at h
  cases e : namesOf p with
  | none => rw [e] at h; cases h
  | some l => rw [e] at h; exact ⟨l, rfl, h⟩
theorem GoodS.lnk {s : TrS} (h : GoodS s) (p q : Nm) : GoodS (((s.lnk p q).run s).2) := by
  refine run_all h ?_
  cases hr : s.lnk p q with
  | err e => trivial
  | ok s' =>
    show GoodS s'
    unfold TrS.lnk at hr
    obtain ⟨i, hi, hr⟩ := Res.bind_ok hr
    obtain ⟨_, h1, hr⟩ := Res.bind_ok hr
    obtain ⟨x, hx, hr⟩ := Res.bind_ok hr
    obtain ⟨_, h2, hr⟩ := Res.bind_ok hr
    obtain ⟨_, h3, hr⟩ := Res.bind_ok hr
    obtain ⟨_, h4, hr⟩ := Res.bind_ok hr
    have h1 := stopB_ok h1
    have h2 := stopB_ok h2
    have h3 := stopB_ok h3
    have h4 := stopB_ok h4
    simp only [decide_eq_false_iff_not, ne_eq, Decidable.not_not, Int.not_le] at h1 h2 h3 h4
    cases hr
    obtain ⟨l, -, hl⟩ := resolve_ok hi
    have hs := place_ok hx
    exact (h.lnkx hs.dir hs.name (h.zero (hs.ino ▸ h2)) h4 (h.res_has l 1 i h.h1 hl) h1 h3).1
theorem drop_eq {s : DirS} {d i : Int} {n : Nm} (hf : s.find d n = some i) : (s.drop d n).2 = ⟨del s.m (d, n), set s.c d (s.count d - 1)⟩ := by
  unfold DirS.drop
  rw [if_neg (by rw [hf]; simp)]
/-- a name goes -/
theorem GoodS.dropx {s : TrS} (h : GoodS s) {x : SpotS} (hf : s.n.find x.dir x.name = some x.ino) (ho : s.kind x.ino = 1 → ¬ 0 < s.n.count x.ino) :
    GoodS (s.drop x) ∧ (s.drop x).n = ⟨del s.n.m (x.dir, x.name), set s.n.c x.dir (s.n.count x.dir - 1)⟩ ∧ TabUpd s.t (s.drop x).t x.ino { s.t.at x.ino with links := (s.t.at x.ino).links - 1 } (decide ((s.t.at x.ino).links ≠ 1)) := by
  have hok := TrS.ok.drop h.ok x
  have hmem := (mem_iff_get h.ok.n.nd (x.dir, x.name) x.ino).2 hf
  have hent := h.good.ent _ hmem
  have hi : s.t.has x.ino = true := hent.1
  have hi1 : x.ino ≠ 1 := fun e => namesN_zero.1 h.good.one _ hmem e
  have hin := h.ino _ hi
  have hgi := h.good.ino _ (has_mem.1 hi) hi1
  have hl0 := (h.ok.t.x x.ino).l0
  have hl8 := (h.ok.t.x x.ino).l1
  have hout : ∀ e ∈ s.n.m, e.1.1 ≠ x.ino := fun e he e1 => by
    by_cases hk : s.kind x.ino = 1
    · exact count_zero h.ok.n (ho hk) e he e1
    · exact hk (by rw [← e1]; exact (h.good.ent e he).2)
  have hl := link_eq (s := s.t) (i := x.ino) (by' := -1) hi (Or.inr rfl) hi1 ⟨by omega, by omega⟩
  have eLm : (s.t.at x.ino).links + -1 = (s.t.at x.ino).links - 1 := by omega
  rw [eLm] at hl
  obtain ⟨X, hX⟩ : ∃ X : InS, X = { s.t.at x.ino with links := (s.t.at x.ino).links - 1 } := ⟨_, rfl⟩
  have hXi : X.ino = x.ino := by rw [hX]; exact hin.1
  have hXl : X.links = (s.t.at x.ino).links - 1 := by rw [hX]
  have hXo : X.opens = 0 := by rw [hX]; exact hin.2.2.2
  rw [← hX] at hl ⊢
  have hu := keep_upd (s := s.t) h.nd X (decide ((-1 : Int) < 0))
  have e1 : (!(decide ((-1 : Int) < 0) && decide (X.links + X.opens = 0))) = decide ((s.t.at x.ino).links ≠ 1) := by
    rw [hXl, hXo, show decide ((-1 : Int) < 0) = true from rfl, Bool.true_and]
    by_cases e : (s.t.at x.ino).links = 1
    · rw [e]; decide
    · rw [decide_eq_false (by omega), decide_eq_true e]; rfl
  rw [e1, hXi] at hu
  have hde := drop_eq hf
  unfold TrS.drop at hok ⊢
  rw [hl, hde] at hok ⊢
  simp only at hok ⊢
  generalize s.t.keep X (decide ((-1 : Int) < 0)) = T2 at *
  have hat : ∀ j, x.ino ≠ j → T2.at j = s.t.at j := fun j hj => by rw [hu.at' j, if_neg hj]
  have hhas : ∀ j, x.ino ≠ j → T2.has j = s.t.has j := fun j hj => by rw [hu.has j, if_neg hj]
  have hnn := namesN_del s.n.m (x.dir, x.name) x.ino h.ok.n.nd hf
  have hni := hnn x.ino
  rw [if_pos rfl] at hni
  have hRc : ∀ j, j ≠ x.ino → Rch s.n.m j → Rch (del s.n.m (x.dir, x.name)) j := fun j hj hr => Rch.cut hout (fun e he e2 => mem_del.2 ⟨he, fun ek => e2 (by
    have h1 := (mem_iff_get h.ok.n.nd e.1 e.2).1 he
    rw [ek] at h1
    have h2 : get s.n.m (x.dir, x.name) = some x.ino := hf
    rw [h2] at h1
    exact (Option.some.inj h1).symm)⟩) hr hj
  refine ⟨⟨hok, ⟨fun e he => ?_, ?_, ?_, fun j hj h1 => ?_⟩, hu.nd, ?_, ?_, fun j hj => ?_, ?_, fun e he => ?_⟩, trivial, hu⟩
  · have hem := (mem_del.1 he).1
    have hee := h.good.ent e hem
    show T2.has e.2 = true ∧ (T2.at e.1.1).kind = 1
    rw [hat _ (Ne.symm (hout e hem))]
    refine ⟨?_, hee.2⟩
    by_cases e2 : x.ino = e.2
    · have h2 : 1 ≤ namesN (del s.n.m (x.dir, x.name)) x.ino := namesN_pos he e2.symm
      rw [hu.has, if_pos e2]
      have h1 := hgi.1
      refine decide_eq_true ?_
      omega
    · rw [hhas _ e2]; exact hee.1
  · show namesN (del s.n.m _) 1 = 0
    have := hnn 1
    have := h.good.one
    omega
  · show (T2.at 1).links ≠ 0
    rw [hat _ hi1, h.r1]
    decide
  · have hj : T2.has j = true := has_mem.2 hj
    show (T2.at j).links = (namesN (del s.n.m _) j : Nat) ∧ (T2.at j).links ≠ 0 ∧ Rch (del s.n.m _) j ∧ ((T2.at j).kind = 1 → namesN (del s.n.m _) j = 1)
    by_cases e : x.ino = j
    · subst e
      rw [hu.has, if_pos rfl] at hj
      have hj2 := of_decide_eq_true hj
      have hat2 := hu.at' x.ino
      rw [if_pos rfl, hj, if_pos rfl] at hat2
      rw [hat2]
      refine ⟨by rw [hXl]; omega, by rw [hXl]; omega, ?_, fun hk => ?_⟩
      · obtain ⟨e, he, e2⟩ := namesN_ex (m := del s.n.m (x.dir, x.name)) (i := x.ino) (by omega)
        rw [← e2]
        refine .lead e he (hRc _ (hout e (mem_del.1 he).1) (h.dir (h.good.ent e (mem_del.1 he).1).2))
      · have := hgi.2.2.2 (by rw [hX] at hk; exact hk)
        omega
    · rw [hhas _ e] at hj
      have g := h.good.ino j (has_mem.1 hj) h1
      have := hnn j
      rw [if_neg e, Nat.add_zero] at this
      rw [hat _ e, this]
      exact ⟨g.1, g.2.1, hRc _ (Ne.symm e) g.2.2.1, g.2.2.2⟩
  · show T2.at 1 = _
    rw [hat _ hi1, h.r1]
  · show T2.has 1 = true
    rw [hhas _ hi1, h.h1]
  · show (T2.at j).ino = j ∧ 1 ≤ j ∧ j < T2.next ∧ (T2.at j).opens = 0
    have hj : T2.has j = true := hj
    rw [hu.next]
    by_cases e : x.ino = j
    · subst e
      have hj2 := hj
      rw [hu.has, if_pos rfl] at hj2
      have hat2 := hu.at' x.ino
      rw [if_pos rfl, hj2, if_pos rfl] at hat2
      rw [hat2]
      exact ⟨hXi, hin.2.1, hin.2.2.1, hXo⟩
    · rw [hhas _ e] at hj
      rw [hat _ e]
      exact h.ino j hj
  · show T2.next ≤ _
    rw [hu.next]
    exact h.next
  · exact h.nm e (mem_del.1 he).1
theorem GoodS.rmdir {s : TrS} (h : GoodS s) (p : Nm) : GoodS (((s.rmdir p).run s).2) := by
  refine run_all h ?_
  cases hr : s.rmdir p with
  | err e => trivial
  | ok s' =>
    show GoodS s'
    unfold TrS.rmdir at hr
    obtain ⟨x, hx, hr⟩ := Res.bind_ok hr
    obtain ⟨_, h1, hr⟩ := Res.bind_ok hr
    obtain ⟨_, h2, hr⟩ := Res.bind_ok hr
    obtain ⟨_, h3, hr⟩ := Res.bind_ok hr
    have h1 := stopB_ok h1
    have h3 := stopB_ok h3
    simp only [decide_eq_false_iff_not] at h1 h3
    cases hr
    have hs := place_ok hx
    exact (h.dropx (find_some hs.ino.symm h1) fun _ => h3).1
theorem GoodS.unlink {s : TrS} (h : GoodS s) (p : Nm) : GoodS (((s.unlink p).run s).2) := by
  refine run_all h ?_
  cases hr : s.unlink p with
  | err e => trivial
  | ok s' =>
    show GoodS s'
    unfold TrS.unlink at hr
    obtain ⟨x, hx, hr⟩ := Res.bind_ok hr
    obtain ⟨_, h1, hr⟩ := Res.bind_ok hr
    obtain ⟨_, h2, hr⟩ := Res.bind_ok hr
    have h1 := stopB_ok h1
    have h2 := stopB_ok h2
    simp only [decide_eq_false_iff_not] at h1 h2
    cases hr
    have hs := place_ok hx
    exact (h.dropx (find_some hs.ino.symm h1) fun hk => absurd hk h2).1
/-- a size -/
theorem GoodS.cutx {s : TrS} (h : GoodS s) {i n : Int} (he : (s.t.cut i n).1 = 0) :
    GoodS ⟨(s.t.cut i n).2, s.n⟩ ∧ s.t.has i = true ∧ TabUpd s.t (s.t.cut i n).2 i { s.t.at i with size := n } true := by
  have hok := h.ok.t.cut i n
  unfold TabS.cut at he hok ⊢
  split at he
  · exact absurd he (show ¬ (60 : Int) = 0 by decide)
  split at he
  · exact absurd he (show ¬ (63 : Int) = 0 by decide)
  split at he
  · exact absurd he (show ¬ (67 : Int) = 0 by decide)
  rename_i h1 h2 h3
  rw [if_neg h1, if_neg h2, if_neg h3] at hok ⊢
  have hi : s.t.has i = true := by simpa using h1
  have hin := h.ino i hi
  have hi1 : i ≠ 1 := fun e => h2 (by rw [e, h.r1])
  obtain ⟨X, hX⟩ : ∃ X : InS, X = { s.t.at i with size := n } := ⟨_, rfl⟩
  have hXi : X.ino = i := by rw [hX]; exact hin.1
  rw [← hX] at hok ⊢
  have hu := keep_upd (s := s.t) h.nd X false
  rw [show ∀ z : Bool, (!(false && z)) = true from fun z => rfl, hXi] at hu
  simp only at hok ⊢
  generalize s.t.keep X false = T2 at *
  have hat : ∀ j, T2.at j = if i = j then X else s.t.at j := fun j => by rw [hu.at' j]; rfl
  have hhas : ∀ j, T2.has j = s.t.has j := fun j => by
    rw [hu.has j]
    split
    · rename_i e; rw [← e, hi]
    · rfl
  have hsame : ∀ d, (T2.at d).kind = (s.t.at d).kind ∧ (T2.at d).links = (s.t.at d).links ∧ (T2.at d).ino = (s.t.at d).ino ∧ (T2.at d).opens = (s.t.at d).opens := fun d => by
    rw [hat]
    split
    · rename_i e; subst e; rw [hX]; exact ⟨rfl, rfl, rfl, rfl⟩
    · exact ⟨rfl, rfl, rfl, rfl⟩
  refine ⟨⟨⟨hok, h.ok.n⟩, ⟨fun e he => ?_, h.good.one, ?_, fun j hj h1 => ?_⟩, hu.nd, ?_, ?_, fun j hj => ?_, ?_, h.nm⟩, hi, hu⟩
  · show T2.has e.2 = true ∧ (T2.at e.1.1).kind = 1
    rw [hhas, (hsame _).1]
    exact h.good.ent e he
  · show (T2.at 1).links ≠ 0
    rw [(hsame 1).2.1]
    exact h.good.root
  · have hj : s.t.has j = true := by rw [← hhas]; exact has_mem.2 hj
    show (T2.at j).links = _ ∧ (T2.at j).links ≠ 0 ∧ _ ∧ ((T2.at j).kind = 1 → _)
    rw [(hsame j).1, (hsame j).2.1]
    exact h.good.ino j (has_mem.1 hj) h1
  · show T2.at 1 = _
    rw [hat, if_neg hi1, h.r1]
  · show T2.has 1 = true
    rw [hhas, h.h1]
  · show (T2.at j).ino = j ∧ 1 ≤ j ∧ j < T2.next ∧ (T2.at j).opens = 0
    have hj : s.t.has j = true := by rw [← hhas]; exact hj
    rw [(hsame j).2.2.1, (hsame j).2.2.2, hu.next]
    exact h.ino j hj
  · show T2.next ≤ _
    rw [hu.next]
    exact h.next
theorem GoodS.trunc {s : TrS} (h : GoodS s) (p : Nm) (n : Int) : GoodS (((s.trunc p n).run s).2) := by
  refine run_all h ?_
  cases hr : s.trunc p n with
  | err e => trivial
  | ok s' =>
    show GoodS s'
    unfold TrS.trunc at hr
    obtain ⟨i, -, hr⟩ := Res.bind_ok hr
    obtain ⟨_, h1, hr⟩ := Res.bind_ok hr
    have h1 := stopB_ok h1
    simp only [decide_eq_false_iff_not, ne_eq, Decidable.not_not] at h1
    cases hr
    exact (h.cutx h1).1
theorem tr0_good : GoodS tr0 := by
  refine ⟨tr0_ok, ⟨fun e he => absurd he (by simp [tr0]), rfl, by decide, fun i hi h1 => ?_⟩, by decide, by decide, by decide, fun i hi => ?_, by decide, fun e he => absurd he (by simp [tr0])⟩
  · have hi : i ∈ [(1 : Int)] := hi
    rw [List.mem_singleton] at hi
    exact absurd hi h1
  · have hi := has_mem.1 hi
    have hi : i ∈ [(1 : Int)] := hi
    rw [List.mem_singleton] at hi
    subst hi
    exact ⟨by decide, by decide, by decide, by decide⟩
end Esch
