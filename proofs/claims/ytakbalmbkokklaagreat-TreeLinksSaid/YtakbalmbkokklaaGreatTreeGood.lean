/- whatever is done, all hangs together: plain -/
import Derived.Test.YtakbalmbkokklaaGreatGoodM
import Derived.Test.YtakbalmbkokklaaGreatTreeOk
namespace Esch
open Go

theorem Res.bind_ok {α β : Type} {r : Res α} {f : α → Res β} {b : β} (h : r.bind f = .ok b) : ∃ a, r = .ok a ∧ f a = .ok b := by
  cases r with
  | ok a => exact ⟨a, rfl, h⟩
  | err e => cases h
theorem stopB_ok {e : Int} {b : Bool} {u : Unit} (h : stopB e b = .ok u) : b = false := by
  cases b with
  | false => rfl
  | true => cases h
/-- all that stays true of a tree -/
structure GoodS (s : TrS) : Prop where
  ok : s.ok
  good : GoodT s
  nd : (s.t.m.map (·.1)).Nodup
  r1 : s.t.at 1 = ⟨1, 1, 1, 0, 0⟩
  h1 : s.t.has 1 = true
  ino : ∀ i, s.t.has i = true → (s.t.at i).ino = i ∧ 1 ≤ i ∧ i < s.t.next ∧ (s.t.at i).opens = 0
  next : s.t.next ≤ 2147483647
  nm : ∀ e ∈ s.n.m, nameL e.1.2 = true
theorem has_mem {s : TabS} {i : Int} : s.has i = true ↔ i ∈ s.m.map (·.1) := by
  unfold TabS.has
  rw [Option.isSome_iff_ne_none, ne_eq, get_none, List.mem_map]
  constructor
  · intro h
    apply Classical.byContradiction
    intro h2
    exact h fun p hp e => h2 ⟨p, hp, e⟩
  · rintro ⟨p, hp, e⟩ h
    exact h p hp e
theorem has_set (m : List (Int × InS)) (i : Int) (x : InS) (nx : Int) (j : Int) (nx' : Int) : (⟨set m i x, nx⟩ : TabS).has j = if i = j then true else (⟨m, nx'⟩ : TabS).has j := by
  unfold TabS.has; simp only [get_set]; split <;> rfl
theorem has_del (m : List (Int × InS)) (i : Int) (nx : Int) (j : Int) (nx' : Int) : (⟨del m i, nx⟩ : TabS).has j = if i = j then false else (⟨m, nx'⟩ : TabS).has j := by
  unfold TabS.has; simp only [get_del]; split <;> rfl
theorem kind_has {s : TrS} {i : Int} (h : s.kind i = 1) : s.t.has i = true := by
  unfold TrS.kind TabS.at at h
  unfold TabS.has
  cases e : get s.t.m i with
  | some x => rfl
  | none => rw [e] at h; exact absurd h (by decide)
/-- a table with one changed -/
structure TabUpd (s s' : TabS) (i : Int) (x : InS) (kp : Bool) : Prop where
  at' : ∀ j, s'.at j = if i = j then (if kp = true then x else in0) else s.at j
  has : ∀ j, s'.has j = if i = j then kp else s.has j
  next : s'.next = s.next
  nd : (s'.m.map (·.1)).Nodup
theorem keep_upd {s : TabS} (hn : (s.m.map (·.1)).Nodup) (x : InS) (may : Bool) : TabUpd s (s.keep x may) x.ino x (!(may && decide (x.links + x.opens = 0))) := by
  unfold TabS.keep
  split
  · rename_i h
    have hb : (!(may && decide (x.links + x.opens = 0))) = false := by rw [h.1, decide_eq_true h.2]; rfl
    rw [hb]
    refine ⟨fun j => ?_, fun j => ?_, rfl, ?_⟩
    · have e := at_del ⟨set s.m x.ino x, s.next⟩ x.ino j s.next
      show (⟨del (set s.m x.ino x) x.ino, s.next⟩ : TabS).at j = _
      rw [e]
      split
      · rfl
      · rename_i h2; rw [at_set, if_neg h2]
    · show (⟨del (set s.m x.ino x) x.ino, s.next⟩ : TabS).has j = _
      rw [has_del _ _ _ _ s.next]
      split
      · rfl
      · rename_i h2; rw [has_set _ _ _ _ _ s.next, if_neg h2]
    · exact (set_nodup _ _ hn).sublist (List.filter_sublist.map _)
  · rename_i h
    have hb : (!(may && decide (x.links + x.opens = 0))) = true := by
      cases may with
      | false => rfl
      | true => rw [decide_eq_false (fun e => h ⟨rfl, e⟩)]; rfl
    rw [hb]
    refine ⟨fun j => ?_, fun j => ?_, rfl, set_nodup _ _ hn⟩
    · show (⟨set s.m x.ino x, s.next⟩ : TabS).at j = _
      rw [at_set]; rfl
    · show (⟨set s.m x.ino x, s.next⟩ : TabS).has j = _
      rw [has_set _ _ _ _ _ s.next]
theorem link_eq {s : TabS} {i by' : Int} (hh : s.has i = true) (hb : by' = 1 ∨ by' = -1) (h1 : i ≠ 1) (hl : 0 ≤ (s.at i).links + by' ∧ (s.at i).links + by' ≤ 8) :
    s.link i by' = (0, s.keep { s.at i with links := (s.at i).links + by' } (decide (by' < 0))) := by
  unfold TabS.link
  rw [if_neg (by rw [hh]; decide), if_neg (fun h => by rcases h with h | h <;> omega), if_neg (by omega)]
/-- the number of names of an inode, behind a drop -/
theorem namesN_del (m : List Ent) (k : DK) (i : Int) (hnd : (m.map (·.1)).Nodup) (hg : get m k = some i) (j : Int) : namesN (del m k) j + (if i = j then 1 else 0) = namesN m j := by
  obtain ⟨pre, post, rfl, hp⟩ := get_some hg
  have hpost : ∀ p ∈ post, p.1 ≠ k := by
    intro p hp' e
    rw [List.map_append, List.nodup_append] at hnd
    have := (List.nodup_cons.1 hnd.2.1).1
    exact this (List.mem_map.2 ⟨p, hp', e⟩)
  have hd : del (pre ++ (k, i) :: post) k = pre ++ post := by
    unfold del
    rw [List.filter_append, List.filter_cons]
    have e1 : pre.filter (fun p => decide (p.1 ≠ k)) = pre := List.filter_eq_self.2 fun p hp' => by simpa using hp p hp'
    have e2 : post.filter (fun p => decide (p.1 ≠ k)) = post := List.filter_eq_self.2 fun p hp' => by simpa using hpost p hp'
    rw [e1, e2]; simp
  rw [hd]
  unfold namesN
  simp only [List.filter_append, List.length_append, List.filter_cons]
  by_cases e : i = j
  · have h1 : (i == j) = true := by simpa using e
    simp only [h1, if_true, if_pos e, List.length_cons]
    rfl
  · have h1 : (i == j) = false := by simpa using e
    simp only [h1, Bool.false_eq_true, if_false, if_neg e, Nat.add_zero]
theorem mem_del {m : List Ent} {k : DK} {e : Ent} : e ∈ del m k ↔ e ∈ m ∧ e.1 ≠ k := by
  unfold del; rw [List.mem_filter, decide_eq_true_eq]
theorem namesN_zero {m : List Ent} {i : Int} : namesN m i = 0 ↔ ∀ e ∈ m, e.2 ≠ i := by
  unfold namesN
  rw [List.length_eq_zero_iff, List.filter_eq_nil_iff]
  simp only [beq_iff_eq]
theorem namesN_pos {m : List Ent} {i : Int} {e : Ent} (h : e ∈ m) (h2 : e.2 = i) : 1 ≤ namesN m i := by
  apply Classical.byContradiction
  intro h3
  exact namesN_zero.1 (by omega) e h h2
theorem namesN_ex {m : List Ent} {i : Int} (h : 1 ≤ namesN m i) : ∃ e ∈ m, e.2 = i := by
  apply Classical.byContradiction
  intro h3
  have := namesN_zero.2 (fun e he e2 => h3 ⟨e, he, e2⟩)
  omega
/-- of an inode with one name, two entries are one -/
theorem namesN_one {m : List Ent} {i : Int} (h : namesN m i = 1) {e f : Ent} (he : e ∈ m) (hf : f ∈ m) (e2 : e.2 = i) (f2 : f.2 = i) : e = f := by
  unfold namesN at h
  obtain ⟨g, hg⟩ := List.length_eq_one_iff.1 h
  have h1 : e ∈ m.filter (fun e => e.2 == i) := List.mem_filter.2 ⟨he, by simpa using e2⟩
  have h2 : f ∈ m.filter (fun e => e.2 == i) := List.mem_filter.2 ⟨hf, by simpa using f2⟩
  rw [hg, List.mem_singleton] at h1 h2
  rw [h1, h2]
/-- what is reached stays so, if all that led to it does, or what is led to is reached otherwise -/
theorem Rch.via {l l' : List Ent} (h : ∀ e ∈ l, e ∈ l' ∨ Rch l' e.2) {i : Int} (hr : Rch l i) : Rch l' i := by
  induction hr with
  | one => exact .one
  | lead e he _ ih =>
    rcases h e he with h1 | h1
    · exact .lead e h1 ih
    · exact h1
/-- what does not lead on may be left out -/
theorem Rch.cut {l l' : List Ent} {j : Int} (hj : ∀ e ∈ l, e.1.1 ≠ j) (h : ∀ e ∈ l, e.2 ≠ j → e ∈ l') {i : Int} (hr : Rch l i) (hi : i ≠ j) : Rch l' i := by
  induction hr with
  | one => exact .one
  | lead e he _ ih => exact .lead e (h e he hi) (ih (hj e he))
theorem GoodS.dir {s : TrS} (h : GoodS s) {d : Int} (hk : s.kind d = 1) : Rch s.n.m d := by
  by_cases e : d = 1
  · subst e; exact .one
  · exact (h.good.ino d (has_mem.1 (kind_has hk)) e).2.2.1
theorem GoodS.zero {s : TrS} (h : GoodS s) {d : Int} {n : Nm} (hf : (s.n.find d n).getD 0 = 0) : s.n.find d n = none := by
  cases e : s.n.find d n with
  | none => rfl
  | some i =>
    rw [e] at hf
    have hi : i = 0 := hf
    subst hi
    have := (mem_iff_get h.ok.n.nd (d, n) 0).2 e
    have := (h.ino 0 (h.good.ent _ this).1).2.1
    omega
theorem find_some {s : DirS} {d : Int} {n : Nm} {i : Int} (hf : (s.find d n).getD 0 = i) (hi : i ≠ 0) : s.find d n = some i := by
  cases e : s.find d n with
  | none => rw [e] at hf; exact absurd hf.symm hi
  | some j => rw [e] at hf; exact congrArg some hf
/-- what a place is -/
structure SpotOk (s : TrS) (p : Nm) (x : SpotS) : Prop where
  ex : ∃ l, namesOf p = some l ∧ l ≠ [] ∧ s.res 1 l.dropLast = .ok x.dir ∧ x.name = l.getLastD [] ∧ l.dropLast ++ [x.name] = l
  dir : s.kind x.dir = 1
  name : nameL x.name = true
  ino : x.ino = (s.n.find x.dir x.name).getD 0
theorem place_ok {s : TrS} {p : Nm} {r : Int} {x : SpotS} (h : s.place p r = .ok x) : SpotOk s p x := by
  unfold TrS.place at h
  cases hn : namesOf p with
  | none => rw [hn] at h; cases h
  | some l =>
    rw [hn] at h
    simp only at h
    split at h
    · cases h
    · rename_i hl
      obtain ⟨d, hd, h⟩ := Res.bind_ok h
      split at h
      · cases h
      · rename_i hk
        cases h
        have hlast : l.dropLast ++ [l.getLastD []] = l := by
          rw [List.getLastD_eq_getLast?, List.getLast?_eq_some_getLast hl]
          exact List.dropLast_concat_getLast hl
        refine ⟨⟨l, hn, hl, hd, rfl, hlast⟩, by simpa using hk, ?_, rfl⟩
        refine (namesOf_some hn).2.1 _ ?_
        rw [← hlast]
        simp
theorem GoodS.dlt {s : TrS} (h : GoodS s) {d : Int} (hk : s.kind d = 1) : 1 ≤ d ∧ d ≤ 2147483647 := by
  have := h.ino d (kind_has hk)
  have := h.next
  omega
theorem add_eq {s : TrS} (_h : GoodS s) {d i : Int} {n : Nm} (hn : nameL n = true) (hd : 1 ≤ d ∧ d ≤ 2147483647) (hi : 1 ≤ i ∧ i ≤ 2147483647) (hf : s.n.find d n = none) (hc : s.n.count d < 64) :
    (s.n.add d n i).2 = ⟨s.n.m ++ [((d, n), i)], set s.n.c d (s.n.count d + 1)⟩ := by
  unfold DirS.add
  rw [if_neg (by rw [hn]; decide), if_neg (by omega), if_neg (by rw [hf]; decide), if_neg (by omega)]
  show (⟨set s.n.m (d, n) i, _⟩ : DirS) = _
  rw [set_miss _ _ _ (get_none.1 hf)]
theorem count_zero {s : DirS} (h : s.ok) {d : Int} (hc : ¬ 0 < s.count d) : ∀ e ∈ s.m, e.1.1 ≠ d := by
  intro e he e1
  have h1 := h.cnt d
  have h2 : e ∈ s.m.filter (fun e => e.1.1 == d) := List.mem_filter.2 ⟨he, by simpa using e1⟩
  have := List.length_pos_of_mem h2
  omega
end Esch
