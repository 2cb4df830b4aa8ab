import Derived.Test.YtakbalmbkokklaaGreatDirM
import Derived.Test.YtakbalmbkokklaaGreatPkIno
import Derived.Test.YtakbalmbkokklaaGreatPkPath
import Derived.Test.YtakbalmbkokklaaGreatReachM
/- the tree, plain: what each call comes to; and what stays true -/
namespace Esch
open Go

structure TrS where
  t : TabS
  n : DirS
structure SpotS where
  dir : Int
  name : Nm
  ino : Int
inductive Res (α : Type) where
  | ok : α → Res α
  | err : Int → Res α
def Res.bind {α β : Type} (r : Res α) (f : α → Res β) : Res β := match r with
  | .ok a => f a
  | .err e => .err e
def stopB (e : Int) (b : Bool) : Res Unit := if b = true then .err e else .ok ()
def TrS.kind (s : TrS) (i : Int) : Int := (s.t.at i).kind
def TrS.res (s : TrS) : Int → List Nm → Res Int
  | d, [] => .ok d
  | d, n :: l => if s.kind d ≠ 1 then .err 62 else match s.n.find d n with
    | none => .err 60
    | some i => s.res i l
def TrS.resolve (s : TrS) (p : Nm) : Res Int := match namesOf p with
  | none => .err 11
  | some l => s.res 1 l
def TrS.place (s : TrS) (p : Nm) (ofRoot : Int) : Res SpotS := match namesOf p with
  | none => .err 11
  | some l => if l = [] then .err ofRoot else (s.res 1 l.dropLast).bind fun d => if s.kind d ≠ 1 then .err 62 else .ok ⟨d, l.getLastD [], (s.n.find d (l.getLastD [])).getD 0⟩
def TrS.add (s : TrS) (x : SpotS) (i : Int) : TrS := ⟨(s.t.link i 1).2, (s.n.add x.dir x.name i).2⟩
def TrS.drop (s : TrS) (x : SpotS) : TrS := ⟨(s.t.link x.ino (-1)).2, (s.n.drop x.dir x.name).2⟩
/-- a call's error, and the tree behind it -/
def Res.run (s : TrS) (r : Res TrS) : Int × TrS := match r with
  | .ok s' => (0, s')
  | .err e => (e, s)
def TrS.mk' (s : TrS) (p : Nm) (kind : Int) : Res TrS := (s.place p 61).bind fun x =>
  (stopB 61 (decide (x.ino ≠ 0))).bind fun _ => (stopB 67 (decide (64 ≤ s.n.count x.dir))).bind fun _ =>
  (stopB (s.t.make kind).1.2 (decide ((s.t.make kind).1.2 ≠ 0))).bind fun _ => .ok (TrS.add ⟨(s.t.make kind).2, s.n⟩ x (s.t.make kind).1.1)
def TrS.rmdir (s : TrS) (p : Nm) : Res TrS := (s.place p 70).bind fun x =>
  (stopB 60 (decide (x.ino = 0))).bind fun _ => (stopB 62 (decide (s.kind x.ino ≠ 1))).bind fun _ => (stopB 64 (decide (0 < s.n.count x.ino))).bind fun _ => .ok (s.drop x)
def TrS.unlink (s : TrS) (p : Nm) : Res TrS := (s.place p 70).bind fun x =>
  (stopB 60 (decide (x.ino = 0))).bind fun _ => (stopB 63 (decide (s.kind x.ino = 1))).bind fun _ => .ok (s.drop x)
def TrS.lnk (s : TrS) (p q : Nm) : Res TrS := (s.resolve p).bind fun i => (stopB 63 (decide (s.kind i = 1))).bind fun _ => (s.place q 61).bind fun x =>
  (stopB 61 (decide (x.ino ≠ 0))).bind fun _ => (stopB 66 (decide (8 ≤ (s.t.at i).links))).bind fun _ => (stopB 67 (decide (64 ≤ s.n.count x.dir))).bind fun _ => .ok (s.add x i)
def TrS.renS (s : TrS) (x y : SpotS) : TrS :=
  let s1 := if y.ino ≠ 0 then s.drop y else s
  ⟨s1.t, (((s1.n.drop x.dir x.name).2).add y.dir y.name x.ino).2⟩
def TrS.rename (s : TrS) (p q : Nm) : Res TrS := (s.place p 70).bind fun x =>
  (stopB 60 (decide (x.ino = 0))).bind fun _ => (s.place q 61).bind fun y => if x.ino = y.ino then .ok s else
  (stopB 65 (decide (s.kind x.ino = 1) && insideOf (namesOf q) (namesOf p))).bind fun _ =>
  (if y.ino = 0 then stopB 67 (decide (64 ≤ s.n.count y.dir) && decide (y.dir ≠ x.dir))
   else if s.kind x.ino = 1 then (stopB 62 (decide (s.kind y.ino ≠ 1))).bind fun _ => stopB 64 (decide (0 < s.n.count y.ino))
   else stopB 63 (decide (s.kind y.ino = 1))).bind fun _ => .ok (s.renS x y)
def TrS.trunc (s : TrS) (p : Nm) (n : Int) : Res TrS := (s.resolve p).bind fun i =>
  (stopB (s.t.cut i n).1 (decide ((s.t.cut i n).1 ≠ 0))).bind fun _ => .ok ⟨(s.t.cut i n).2, s.n⟩
def tr0 : TrS := ⟨⟨[(1, ⟨1, 1, 1, 0, 0⟩)], 2⟩, ⟨[], []⟩⟩

/-- counts are what they count -/
structure DirS.ok (s : DirS) : Prop where
  nd : (s.m.map (·.1)).Nodup
  cnt : ∀ d, s.count d = ((s.m.filter (fun e => e.1.1 == d)).length : Nat)
  le : ∀ d, s.count d ≤ 64
theorem DirS.ok.nn {s : DirS} (h : s.ok) (d : Int) : 0 ≤ s.count d := by rw [h.cnt d]; omega
theorem count_set (s : DirS) (m : List Ent) (d d' v : Int) : (⟨m, set s.c d v⟩ : DirS).count d' = if d = d' then v else s.count d' := by
  unfold DirS.count
  simp only [get_set]
  split <;> rfl
theorem DirS.ok.add {s : DirS} (h : s.ok) (d : Int) (n : Nm) (i : Int) : ((s.add d n i).2).ok := by
  unfold DirS.add
  split
  · exact h
  split
  · exact h
  split
  · exact h
  split
  · exact h
  · rename_i h1 h2 h3 h4
    have hg : get s.m (d, n) = none := by
      unfold DirS.find at h3
      cases e : get s.m (d, n)
      · rfl
      · rw [e] at h3; simp at h3
    refine ⟨set_nodup _ _ h.nd, fun d' => ?_, fun d' => ?_⟩
    · rw [count_set, set_miss _ _ _ (get_none.1 hg)]
      simp only [List.filter_append, List.length_append]
      by_cases e : d = d'
      · subst e
        have h5 : ([((d, n), i)].filter (fun e : Ent => e.1.1 == d)).length = 1 := by simp
        rw [if_pos rfl, h.cnt d, h5]
        rfl
      · have h5 : ([((d, n), i)].filter (fun e : Ent => e.1.1 == d')).length = 0 := by simp [e]
        rw [if_neg e, h.cnt d', h5]
        omega
    · rw [count_set]
      split
      · omega
      · exact h.le d'
theorem filter_del (m : List Ent) (k : DK) (i : Int) (hnd : (m.map (·.1)).Nodup) (hg : get m k = some i) (d : Int) : ((del m k).filter (fun e => e.1.1 == d)).length + (if k.1 = d then 1 else 0) = (m.filter (fun e => e.1.1 == d)).length := by
  obtain ⟨pre, post, rfl, hp⟩ := get_some hg
  have hpost : ∀ p ∈ post, p.1 ≠ k := by
    intro p hp' e
    rw [List.map_append, List.nodup_append] at hnd
    have := (List.nodup_cons.1 hnd.2.1).1
    exact this (List.mem_map.2 ⟨p, hp', e⟩)
  have hd : del (pre ++ (k, i) :: post) k = pre ++ post := by
    unfold del
    rw [List.filter_append, List.filter_cons]
    have e1 : pre.filter (fun p => decide (p.1 ≠ k)) = pre := List.filter_eq_self.2 fun p hp' => by simpa using hp p hp'
    have e2 : post.filter (fun p => decide (p.1 ≠ k)) = post := List.filter_eq_self.2 fun p hp' => by simpa using hpost p hp'
    rw [e1, e2]; simp
  rw [hd]
  simp only [List.filter_append, List.length_append, List.filter_cons]
  by_cases e : k.1 = d
  · have h1 : (k.1 == d) = true := by simpa using e
    simp only [h1, if_true, if_pos e, List.length_cons]
    rfl
  · have h1 : (k.1 == d) = false := by simpa using e
    simp only [h1, Bool.false_eq_true, if_false, if_neg e, Nat.add_zero]
theorem DirS.ok.drop {s : DirS} (h : s.ok) (d : Int) (n : Nm) : ((s.drop d n).2).ok := by
  unfold DirS.drop
  split
  · exact h
  · rename_i hf
    obtain ⟨i, hi⟩ : ∃ i, get s.m (d, n) = some i := by
      unfold DirS.find at hf
      cases e : get s.m (d, n)
      · exact absurd e hf
      · exact ⟨_, rfl⟩
    refine ⟨?_, fun d' => ?_, fun d' => ?_⟩
    · exact h.nd.sublist (List.filter_sublist.map _)
    · rw [count_set]
      have hf := filter_del s.m (d, n) i h.nd hi d'
      by_cases e : d = d'
      · subst e
        rw [if_pos rfl, h.cnt d]
        rw [if_pos rfl] at hf
        show _ = (((del s.m (d, n)).filter (fun e => e.1.1 == d)).length : Int)
        omega
      · rw [if_neg e, h.cnt d']
        rw [if_neg e] at hf
        show _ = (((del s.m (d, n)).filter (fun e => e.1.1 == d')).length : Int)
        omega
    · rw [count_set]
      split
      · have := h.le d; omega
      · exact h.le d'
structure TabS.ok (s : TabS) : Prop where
  x : ∀ i, (s.at i).ok
  next : 0 ≤ s.next
theorem in0_ok : in0.ok := ⟨by decide, by decide, by decide, by decide⟩
theorem at_set (s : TabS) (i j : Int) (x : InS) (nx : Int) : (⟨set s.m i x, nx⟩ : TabS).at j = if i = j then x else s.at j := by
  unfold TabS.at; simp only [get_set]; split <;> rfl
theorem at_del (s : TabS) (i j : Int) (nx : Int) : (⟨del s.m i, nx⟩ : TabS).at j = if i = j then in0 else s.at j := by
  unfold TabS.at; simp only [get_del]; split <;> rfl
theorem TabS.ok.keep {s : TabS} (h : s.ok) {x : InS} (hx : x.ok) (may : Bool) : (s.keep x may).ok := by
  unfold TabS.keep
  split
  · refine ⟨fun i => ?_, h.next⟩
    have e := at_del ⟨set s.m x.ino x, s.next⟩ x.ino i s.next
    show ((⟨del (set s.m x.ino x) x.ino, s.next⟩ : TabS).at i).ok
    rw [e, at_set]
    split
    · exact in0_ok
    · exact h.x i
  · refine ⟨fun i => ?_, h.next⟩
    show ((⟨set s.m x.ino x, s.next⟩ : TabS).at i).ok
    rw [at_set]
    split
    · exact hx
    · exact h.x i
theorem TabS.ok.link {s : TabS} (h : s.ok) (i d : Int) : ((s.link i d).2).ok := by
  unfold TabS.link
  split
  · exact h
  split
  · exact h
  split
  · exact h
  · rename_i h3
    have := h.x i
    exact h.keep (x := { s.at i with links := (s.at i).links + d }) ⟨by show 0 ≤ (s.at i).links + d; omega, by show (s.at i).links + d ≤ 8; omega, this.o0, this.o1⟩ _
theorem TabS.ok.cut {s : TabS} (h : s.ok) (i n : Int) : ((s.cut i n).2).ok := by
  unfold TabS.cut
  split
  · exact h
  split
  · exact h
  split
  · exact h
  · have := h.x i
    show (s.keep { s.at i with size := n } false).ok
    exact h.keep (x := { s.at i with size := n }) ⟨this.l0, this.l1, this.o0, this.o1⟩ _
theorem TabS.ok.make {s : TabS} (h : s.ok) (k : Int) : ((s.make k).2).ok := by
  unfold TabS.make
  split
  · exact h
  split
  · exact h
  · refine ⟨fun i => ?_, by have := h.next; show 0 ≤ s.next + 1; omega⟩
    rw [at_set]
    split
    · exact ⟨Int.le_refl 0, (by decide : (0 : Int) ≤ 8), Int.le_refl 0, (by decide : (0 : Int) ≤ 128)⟩
    · exact h.x i
structure TrS.ok (s : TrS) : Prop where
  t : s.t.ok
  n : s.n.ok
theorem TrS.ok.add {s : TrS} (h : s.ok) (x : SpotS) (i : Int) : (s.add x i).ok := ⟨h.t.link _ _, h.n.add _ _ _⟩
theorem TrS.ok.drop {s : TrS} (h : s.ok) (x : SpotS) : (s.drop x).ok := ⟨h.t.link _ _, h.n.drop _ _⟩
theorem TrS.ok.renS {s : TrS} (h : s.ok) (x y : SpotS) : (s.renS x y).ok := by
  unfold TrS.renS
  simp only
  split
  · exact ⟨(h.drop y).t, (((h.drop y).n).drop _ _).add _ _ _⟩
  · exact ⟨h.t, (h.n.drop _ _).add _ _ _⟩
theorem tr0_ok : tr0.ok := by
  refine ⟨⟨fun i => ?_, by decide⟩, ⟨List.nodup_nil, fun d => rfl, fun d => by show (0 : Int) ≤ 64; decide⟩⟩
  show (((get [((1 : Int), (⟨1, 1, 1, 0, 0⟩ : InS))] i).getD in0)).ok
  unfold get
  split
  · exact ⟨by decide, by decide, by decide, by decide⟩
  · exact in0_ok
end Esch
/- all hangs together: what Check asks, plain -/
namespace Esch
open Go Go.RowKit
/-- all hangs together -/
structure GoodT (s : TrS) : Prop where
  ent : ∀ e ∈ s.n.m, s.t.has e.2 = true ∧ s.kind e.1.1 = 1
  one : namesN s.n.m 1 = 0
  root : (s.t.at 1).links ≠ 0
  ino : ∀ i ∈ s.t.m.map (·.1), i ≠ 1 → (s.t.at i).links = (namesN s.n.m i : Nat) ∧ (s.t.at i).links ≠ 0 ∧ Rch s.n.m i ∧ ((s.t.at i).kind = 1 → namesN s.n.m i = 1)
end Esch
/- the counts stay what they count, whatever is called -/
namespace Esch
open Go
def Res.all {α : Type} (P : α → Prop) (r : Res α) : Prop := match r with
  | .ok a => P a
  | .err _ => True
theorem Res.all_bind {α β : Type} {P : β → Prop} (r : Res α) (f : α → Res β) (h : ∀ a, r = .ok a → (f a).all P) : (r.bind f).all P := by
  cases r with
  | ok a => exact h a rfl
  | err e => trivial
theorem run_all {P : TrS → Prop} {s : TrS} (h : P s) {r : Res TrS} (hr : r.all P) : P (r.run s).2 := by
  cases r with
  | ok a => exact hr
  | err e => exact h
theorem TrS.ok.mk' {s : TrS} (h : s.ok) (p : Nm) (k : Int) : (((s.mk' p k).run s).2).ok := by
  refine run_all h ?_
  unfold TrS.mk'
  refine Res.all_bind _ _ fun x _ => Res.all_bind _ _ fun _ _ => Res.all_bind _ _ fun _ _ => Res.all_bind _ _ fun _ _ => ?_
  exact TrS.ok.add (s := ⟨(s.t.make k).2, s.n⟩) ⟨h.t.make k, h.n⟩ x _
theorem TrS.ok.rmdir {s : TrS} (h : s.ok) (p : Nm) : (((s.rmdir p).run s).2).ok := by
  refine run_all h ?_
  unfold TrS.rmdir
  refine Res.all_bind _ _ fun x _ => Res.all_bind _ _ fun _ _ => Res.all_bind _ _ fun _ _ => Res.all_bind _ _ fun _ _ => ?_
  exact h.drop x
theorem TrS.ok.unlink {s : TrS} (h : s.ok) (p : Nm) : (((s.unlink p).run s).2).ok := by
  refine run_all h ?_
  unfold TrS.unlink
  refine Res.all_bind _ _ fun x _ => Res.all_bind _ _ fun _ _ => Res.all_bind _ _ fun _ _ => ?_
  exact h.drop x
theorem TrS.ok.lnk {s : TrS} (h : s.ok) (p q : Nm) : (((s.lnk p q).run s).2).ok := by
  refine run_all h ?_
  unfold TrS.lnk
  refine Res.all_bind _ _ fun i _ => Res.all_bind _ _ fun _ _ => Res.all_bind _ _ fun x _ => Res.all_bind _ _ fun _ _ => Res.all_bind _ _ fun _ _ => Res.all_bind _ _ fun _ _ => ?_
  exact h.add x i
theorem TrS.ok.rename {s : TrS} (h : s.ok) (p q : Nm) : (((s.rename p q).run s).2).ok := by
  refine run_all h ?_
  unfold TrS.rename
  refine Res.all_bind _ _ fun x _ => Res.all_bind _ _ fun _ _ => Res.all_bind _ _ fun y _ => ?_
  split
  · exact h
  · refine Res.all_bind _ _ fun _ _ => Res.all_bind _ _ fun _ _ => ?_
    exact h.renS x y
theorem TrS.ok.trunc {s : TrS} (h : s.ok) (p : Nm) (n : Int) : (((s.trunc p n).run s).2).ok := by
  refine run_all h ?_
  unfold TrS.trunc
  refine Res.all_bind _ _ fun i _ => Res.all_bind _ _ fun _ _ => ?_
  exact ⟨h.t.cut i n, h.n⟩
end Esch
/- whatever is done, all hangs together: plain -/
namespace Esch
open Go

theorem Res.bind_ok {α β : Type} {r : Res α} {f : α → Res β} {b : β} (h : r.bind f = .ok b) : ∃ a, r = .ok a ∧ f a = .ok b := by
  cases r with
  | ok a => exact ⟨a, rfl, h⟩
  | err e => cases h
theorem stopB_ok {e : Int} {b : Bool} {u : Unit} (h : stopB e b = .ok u) : b = false := by
  cases b with
  | false => rfl
  | true => cases h
/-- all that stays true of a tree -/
structure GoodS (s : TrS) : Prop where
  ok : s.ok
  good : GoodT s
  nd : (s.t.m.map (·.1)).Nodup
  r1 : s.t.at 1 = ⟨1, 1, 1, 0, 0⟩
  h1 : s.t.has 1 = true
  ino : ∀ i, s.t.has i = true → (s.t.at i).ino = i ∧ 1 ≤ i ∧ i < s.t.next ∧ (s.t.at i).opens = 0
  next : s.t.next ≤ 2147483647
  nm : ∀ e ∈ s.n.m, nameL e.1.2 = true
theorem has_mem {s : TabS} {i : Int} : s.has i = true ↔ i ∈ s.m.map (·.1) := by
  unfold TabS.has
  rw [Option.isSome_iff_ne_none, ne_eq, get_none, List.mem_map]
  constructor
  · intro h
    apply Classical.byContradiction
    intro h2
    exact h fun p hp e => h2 ⟨p, hp, e⟩
  · rintro ⟨p, hp, e⟩ h
    exact h p hp e
theorem has_set (m : List (Int × InS)) (i : Int) (x : InS) (nx : Int) (j : Int) (nx' : Int) : (⟨set m i x, nx⟩ : TabS).has j = if i = j then true else (⟨m, nx'⟩ : TabS).has j := by
  unfold TabS.has; simp only [get_set]; split <;> rfl
theorem has_del (m : List (Int × InS)) (i : Int) (nx : Int) (j : Int) (nx' : Int) : (⟨del m i, nx⟩ : TabS).has j = if i = j then false else (⟨m, nx'⟩ : TabS).has j := by
  unfold TabS.has; simp only [get_del]; split <;> rfl
theorem kind_has {s : TrS} {i : Int} (h : s.kind i = 1) : s.t.has i = true := by
  unfold TrS.kind TabS.at at h
  unfold TabS.has
  cases e : get s.t.m i with
  | some x => rfl
  | none => rw [e] at h; exact absurd h (by decide)
/-- a table with one changed -/
structure TabUpd (s s' : TabS) (i : Int) (x : InS) (kp : Bool) : Prop where
  at' : ∀ j, s'.at j = if i = j then (if kp = true then x else in0) else s.at j
  has : ∀ j, s'.has j = if i = j then kp else s.has j
  next : s'.next = s.next
  nd : (s'.m.map (·.1)).Nodup
theorem keep_upd {s : TabS} (hn : (s.m.map (·.1)).Nodup) (x : InS) (may : Bool) : TabUpd s (s.keep x may) x.ino x (!(may && decide (x.links + x.opens = 0))) := by
  unfold TabS.keep
  split
  · rename_i h
    have hb : (!(may && decide (x.links + x.opens = 0))) = false := by rw [h.1, decide_eq_true h.2]; rfl
    rw [hb]
    refine ⟨fun j => ?_, fun j => ?_, rfl, ?_⟩
    · have e := at_del ⟨set s.m x.ino x, s.next⟩ x.ino j s.next
      show (⟨del (set s.m x.ino x) x.ino, s.next⟩ : TabS).at j = _
      rw [e]
      split
      · rfl
      · rename_i h2; rw [at_set, if_neg h2]
    · show (⟨del (set s.m x.ino x) x.ino, s.next⟩ : TabS).has j = _
      rw [has_del _ _ _ _ s.next]
      split
      · rfl
      · rename_i h2; rw [has_set _ _ _ _ _ s.next, if_neg h2]
    · exact (set_nodup _ _ hn).sublist (List.filter_sublist.map _)
  · rename_i h
    have hb : (!(may && decide (x.links + x.opens = 0))) = true := by
      cases may with
      | false => rfl
      | true => rw [decide_eq_false (fun e => h ⟨rfl, e⟩)]; rfl
    rw [hb]
    refine ⟨fun j => ?_, fun j => ?_, rfl, set_nodup _ _ hn⟩
    · show (⟨set s.m x.ino x, s.next⟩ : TabS).at j = _
      rw [at_set]; rfl
    · show (⟨set s.m x.ino x, s.next⟩ : TabS).has j = _
      rw [has_set _ _ _ _ _ s.next]
theorem link_eq {s : TabS} {i by' : Int} (hh : s.has i = true) (hb : by' = 1 ∨ by' = -1) (h1 : i ≠ 1) (hl : 0 ≤ (s.at i).links + by' ∧ (s.at i).links + by' ≤ 8) :
    s.link i by' = (0, s.keep { s.at i with links := (s.at i).links + by' } (decide (by' < 0))) := by
  unfold TabS.link
  rw [if_neg (by rw [hh]; decide), if_neg (fun h => by rcases h with h | h <;> omega), if_neg (by omega)]
/-- the number of names of an inode, behind a drop -/
theorem namesN_del (m : List Ent) (k : DK) (i : Int) (hnd : (m.map (·.1)).Nodup) (hg : get m k = some i) (j : Int) : namesN (del m k) j + (if i = j then 1 else 0) = namesN m j := by
  obtain ⟨pre, post, rfl, hp⟩ := get_some hg
  have hpost : ∀ p ∈ post, p.1 ≠ k := by
    intro p hp' e
    rw [List.map_append, List.nodup_append] at hnd
    have := (List.nodup_cons.1 hnd.2.1).1
    exact this (List.mem_map.2 ⟨p, hp', e⟩)
  have hd : del (pre ++ (k, i) :: post) k = pre ++ post := by
    unfold del
    rw [List.filter_append, List.filter_cons]
    have e1 : pre.filter (fun p => decide (p.1 ≠ k)) = pre := List.filter_eq_self.2 fun p hp' => by simpa using hp p hp'
    have e2 : post.filter (fun p => decide (p.1 ≠ k)) = post := List.filter_eq_self.2 fun p hp' => by simpa using hpost p hp'
    rw [e1, e2]; simp
  rw [hd]
  unfold namesN
  simp only [List.filter_append, List.length_append, List.filter_cons]
  by_cases e : i = j
  · have h1 : (i == j) = true := by simpa using e
    simp only [h1, if_true, if_pos e, List.length_cons]
    rfl
  · have h1 : (i == j) = false := by simpa using e
    simp only [h1, Bool.false_eq_true, if_false, if_neg e, Nat.add_zero]
theorem mem_del {m : List Ent} {k : DK} {e : Ent} : e ∈ del m k ↔ e ∈ m ∧ e.1 ≠ k := by
  unfold del; rw [List.mem_filter, decide_eq_true_eq]
theorem namesN_zero {m : List Ent} {i : Int} : namesN m i = 0 ↔ ∀ e ∈ m, e.2 ≠ i := by
  unfold namesN
  rw [List.length_eq_zero_iff, List.filter_eq_nil_iff]
  simp only [beq_iff_eq]
theorem namesN_pos {m : List Ent} {i : Int} {e : Ent} (h : e ∈ m) (h2 : e.2 = i) : 1 ≤ namesN m i := by
  apply Classical.byContradiction
  intro h3
  exact namesN_zero.1 (by omega) e h h2
theorem namesN_ex {m : List Ent} {i : Int} (h : 1 ≤ namesN m i) : ∃ e ∈ m, e.2 = i := by
  apply Classical.byContradiction
  intro h3
  have := namesN_zero.2 (fun e he e2 => h3 ⟨e, he, e2⟩)
  omega
/-- of an inode with one name, two entries are one -/
theorem namesN_one {m : List Ent} {i : Int} (h : namesN m i = 1) {e f : Ent} (he : e ∈ m) (hf : f ∈ m) (e2 : e.2 = i) (f2 : f.2 = i) : e = f := by
  unfold namesN at h
  obtain ⟨g, hg⟩ := List.length_eq_one_iff.1 h
  have h1 : e ∈ m.filter (fun e => e.2 == i) := List.mem_filter.2 ⟨he, by simpa using e2⟩
  have h2 : f ∈ m.filter (fun e => e.2 == i) := List.mem_filter.2 ⟨hf, by simpa using f2⟩
  rw [hg, List.mem_singleton] at h1 h2
  rw [h1, h2]
/-- what is reached stays so, if all that led to it does, or what is led to is reached otherwise -/
theorem Rch.via {l l' : List Ent} (h : ∀ e ∈ l, e ∈ l' ∨ Rch l' e.2) {i : Int} (hr : Rch l i) : Rch l' i := by
  induction hr with
  | one => exact .one
  | lead e he _ ih =>
    rcases h e he with h1 | h1
    · exact .lead e h1 ih
    · exact h1
/-- what does not lead on may be left out -/
theorem Rch.cut {l l' : List Ent} {j : Int} (hj : ∀ e ∈ l, e.1.1 ≠ j) (h : ∀ e ∈ l, e.2 ≠ j → e ∈ l') {i : Int} (hr : Rch l i) (hi : i ≠ j) : Rch l' i := by
  induction hr with
  | one => exact .one
  | lead e he _ ih => exact .lead e (h e he hi) (ih (hj e he))
theorem GoodS.dir {s : TrS} (h : GoodS s) {d : Int} (hk : s.kind d = 1) : Rch s.n.m d := by
  by_cases e : d = 1
  · subst e; exact .one
  · exact (h.good.ino d (has_mem.1 (kind_has hk)) e).2.2.1
theorem GoodS.zero {s : TrS} (h : GoodS s) {d : Int} {n : Nm} (hf : (s.n.find d n).getD 0 = 0) : s.n.find d n = none := by
  cases e : s.n.find d n with
  | none => rfl
  | some i =>
    rw [e] at hf
    have hi : i = 0 := hf
    subst hi
    have := (mem_iff_get h.ok.n.nd (d, n) 0).2 e
    have := (h.ino 0 (h.good.ent _ this).1).2.1
    omega
theorem find_some {s : DirS} {d : Int} {n : Nm} {i : Int} (hf : (s.find d n).getD 0 = i) (hi : i ≠ 0) : s.find d n = some i := by
  cases e : s.find d n with
  | none => rw [e] at hf; exact absurd hf.symm hi
  | some j => rw [e] at hf; exact congrArg some hf
/-- what a place is -/
structure SpotOk (s : TrS) (p : Nm) (x : SpotS) : Prop where
  ex : ∃ l, namesOf p = some l ∧ l ≠ [] ∧ s.res 1 l.dropLast = .ok x.dir ∧ x.name = l.getLastD [] ∧ l.dropLast ++ [x.name] = l
  dir : s.kind x.dir = 1
  name : nameL x.name = true
  ino : x.ino = (s.n.find x.dir x.name).getD 0
theorem place_ok {s : TrS} {p : Nm} {r : Int} {x : SpotS} (h : s.place p r = .ok x) : SpotOk s p x := by
  unfold TrS.place at h
  cases hn : namesOf p with
  | none => rw [hn] at h; cases h
  | some l =>
    rw [hn] at h
    simp only at h
    split at h
    · cases h
    · rename_i hl
      obtain ⟨d, hd, h⟩ := Res.bind_ok h
      split at h
      · cases h
      · rename_i hk
        cases h
        have hlast : l.dropLast ++ [l.getLastD []] = l := by
          rw [List.getLastD_eq_getLast?, List.getLast?_eq_some_getLast hl]
          exact List.dropLast_concat_getLast hl
        refine ⟨⟨l, hn, hl, hd, rfl, hlast⟩, by simpa using hk, ?_, rfl⟩
        refine (namesOf_some hn).2.1 _ ?_
        rw [← hlast]
        simp
theorem GoodS.dlt {s : TrS} (h : GoodS s) {d : Int} (hk : s.kind d = 1) : 1 ≤ d ∧ d ≤ 2147483647 := by
  have := h.ino d (kind_has hk)
  have := h.next
  omega
theorem add_eq {s : TrS} (_h : GoodS s) {d i : Int} {n : Nm} (hn : nameL n = true) (hd : 1 ≤ d ∧ d ≤ 2147483647) (hi : 1 ≤ i ∧ i ≤ 2147483647) (hf : s.n.find d n = none) (hc : s.n.count d < 64) :
    (s.n.add d n i).2 = ⟨s.n.m ++ [((d, n), i)], set s.n.c d (s.n.count d + 1)⟩ := by
  unfold DirS.add
  rw [if_neg (by rw [hn]; decide), if_neg (by omega), if_neg (by rw [hf]; decide), if_neg (by omega)]
  show (⟨set s.n.m (d, n) i, _⟩ : DirS) = _
  rw [set_miss _ _ _ (get_none.1 hf)]
theorem count_zero {s : DirS} (h : s.ok) {d : Int} (hc : ¬ 0 < s.count d) : ∀ e ∈ s.m, e.1.1 ≠ d := by
  intro e he e1
  have h1 := h.cnt d
  have h2 : e ∈ s.m.filter (fun e => e.1.1 == d) := List.mem_filter.2 ⟨he, by simpa using e1⟩
  have := List.length_pos_of_mem h2
  omega
end Esch
/- whatever is done, all hangs together: make, link, drop, truncate -/
namespace Esch
open Go

theorem make_eq {s : TabS} {k : Int} (h : (s.make k).1.2 = 0) : (k = 1 ∨ k = 2) ∧ s.m.length < 64 ∧ s.next < 2147483647 ∧ s.make k = ((s.next, 0), ⟨set s.m s.next ⟨s.next, k, 0, 0, 0⟩, s.next + 1⟩) := by
  unfold TabS.make at h ⊢
  split at h
  · exact absurd h (show ¬ (1 : Int) = 0 by decide)
  · split at h
    · exact absurd h (show ¬ (67 : Int) = 0 by decide)
    · rename_i h1 h2
      rw [if_neg h1, if_neg h2]
      exact ⟨by omega, by omega, by omega, rfl⟩
/-- a new inode with its one name -/
theorem GoodS.mkx {s : TrS} (h : GoodS s) {x : SpotS} (hd : s.kind x.dir = 1) (hnm : nameL x.name = true) (hf : s.n.find x.dir x.name = none) (hc : s.n.count x.dir < 64) {k : Int} (hm : (s.t.make k).1.2 = 0) :
    GoodS (TrS.add ⟨(s.t.make k).2, s.n⟩ x (s.t.make k).1.1) ∧ (TrS.add ⟨(s.t.make k).2, s.n⟩ x (s.t.make k).1.1).n = ⟨s.n.m ++ [((x.dir, x.name), s.t.next)], set s.n.c x.dir (s.n.count x.dir + 1)⟩ ∧
      (∀ j, (TrS.add ⟨(s.t.make k).2, s.n⟩ x (s.t.make k).1.1).t.at j = if s.t.next = j then ⟨s.t.next, k, 1, 0, 0⟩ else s.t.at j) ∧
      (∀ j, (TrS.add ⟨(s.t.make k).2, s.n⟩ x (s.t.make k).1.1).t.has j = if s.t.next = j then true else s.t.has j) ∧
      (TrS.add ⟨(s.t.make k).2, s.n⟩ x (s.t.make k).1.1).t.next = s.t.next + 1 := by
  obtain ⟨hk, hlen, hnx, he⟩ := make_eq hm
  have hok := TrS.ok.add (s := ⟨(s.t.make k).2, s.n⟩) ⟨h.ok.t.make k, h.ok.n⟩ x (s.t.make k).1.1
  rw [he] at hok ⊢
  simp only at hok ⊢
  have h0 : s.t.has s.t.next = false := by
    cases e : s.t.has s.t.next with
    | false => rfl
    | true => have := (h.ino _ e).2.2.1; omega
  have h2 : 1 < s.t.next := (h.ino 1 h.h1).2.2.1
  obtain ⟨T1, hT1⟩ : ∃ T1 : TabS, T1 = ⟨set s.t.m s.t.next ⟨s.t.next, k, 0, 0, 0⟩, s.t.next + 1⟩ := ⟨_, rfl⟩
  rw [← hT1] at hok ⊢
  have hat1 : ∀ j, T1.at j = if s.t.next = j then ⟨s.t.next, k, 0, 0, 0⟩ else s.t.at j := fun j => by rw [hT1, at_set]
  have hhas1 : ∀ j, T1.has j = if s.t.next = j then true else s.t.has j := fun j => by rw [hT1, has_set _ _ _ _ _ s.t.next]
  have hnx1 : T1.next = s.t.next + 1 := by rw [hT1]
  have hl := link_eq (s := T1) (i := s.t.next) (by' := 1) (by rw [hhas1, if_pos rfl]) (Or.inl rfl) (by omega) (by rw [hat1, if_pos rfl]; exact ⟨(by decide : (0 : Int) ≤ 0 + 1), (by decide : (0 : Int) + 1 ≤ 8)⟩)
  rw [hat1, if_pos rfl] at hl
  have hu := keep_upd (s := T1) (by rw [hT1]; exact set_nodup _ _ h.nd) ⟨s.t.next, k, 0 + 1, 0, 0⟩ (decide ((1 : Int) < 0))
  have hae := add_eq h hnm (h.dlt hd) (i := s.t.next) (by omega) hf hc
  unfold TrS.add at hok ⊢
  rw [hl] at hok ⊢
  simp only at hok hae ⊢
  rw [hae] at hok ⊢
  generalize T1.keep ⟨s.t.next, k, 0 + 1, 0, 0⟩ (decide ((1 : Int) < 0)) = T2 at *
  have e1 : (!(decide ((1 : Int) < 0) && decide ((0 : Int) + 1 + 0 = 0))) = true := by decide
  have hat : ∀ j, T2.at j = if s.t.next = j then ⟨s.t.next, k, 1, 0, 0⟩ else s.t.at j := fun j => by
    have := hu.at' j
    simp only [e1, if_true] at this
    rw [this, hat1]
    split <;> rfl
  have hhas : ∀ j, T2.has j = if s.t.next = j then true else s.t.has j := fun j => by
    have := hu.has j
    simp only [e1] at this
    rw [this, hhas1]
    split <;> rfl
  have hnx2 : T2.next = s.t.next + 1 := by rw [hu.next, hnx1]
  have hn0 : namesN s.n.m s.t.next = 0 := namesN_zero.2 fun e he e2 => by
    have := (h.good.ent e he).1
    rw [e2, h0] at this
    exact absurd this (by decide)
  have hkind : ∀ d, s.kind d = 1 → (T2.at d).kind = 1 := fun d hd => by
    rw [hat, if_neg (fun e => by have := kind_has hd; rw [← e, h0] at this; exact absurd this (by decide))]
    exact hd
  refine ⟨⟨hok, ⟨fun e he => ?_, ?_, ?_, fun i hi h1 => ?_⟩, hu.nd, ?_, ?_, fun i hi => ?_, ?_, fun e he => ?_⟩, rfl, hat, hhas, hnx2⟩
  · rcases List.mem_append.1 he with he | he
    · have := h.good.ent e he
      exact ⟨by rw [hhas]; split; · rfl
                · exact this.1, hkind _ this.2⟩
    · rw [List.mem_singleton] at he
      subst he
      exact ⟨by rw [hhas, if_pos rfl], hkind _ hd⟩
  · show namesN (s.n.m ++ _) 1 = 0
    rw [namesN_snoc, if_neg (by show ¬ s.t.next = 1; omega)]
    exact h.good.one
  · show (T2.at 1).links ≠ 0
    rw [hat, if_neg (by omega), h.r1]
    decide
  · have hi : T2.has i = true := has_mem.2 hi
    show (T2.at i).links = (namesN (s.n.m ++ _) i : Nat) ∧ _ ∧ Rch (s.n.m ++ _) i ∧ ((T2.at i).kind = 1 → namesN (s.n.m ++ _) i = 1)
    rw [namesN_snoc, hat]
    by_cases e : s.t.next = i
    · subst e
      rw [if_pos rfl, if_pos rfl, hn0]
      refine ⟨rfl, (by decide : (1 : Int) ≠ 0), .lead ((x.dir, x.name), s.t.next) (by simp) ((h.dir hd).perm fun e he => List.mem_append_left _ he), fun _ => rfl⟩
    · rw [if_neg e, if_neg e]
      rw [hhas, if_neg e] at hi
      obtain ⟨g1, g2, g3, g4⟩ := h.good.ino i (has_mem.1 hi) h1
      exact ⟨g1, g2, g3.perm fun e he => List.mem_append_left _ he, g4⟩
  · show T2.at 1 = _
    rw [hat, if_neg (by omega), h.r1]
  · show T2.has 1 = true
    rw [hhas, if_neg (by omega), h.h1]
  · show (T2.at i).ino = i ∧ 1 ≤ i ∧ i < T2.next ∧ (T2.at i).opens = 0
    have hi : T2.has i = true := hi
    rw [hhas] at hi
    rw [hat, hnx2]
    by_cases e : s.t.next = i
    · subst e
      rw [if_pos rfl]
      exact ⟨rfl, by omega, by omega, rfl⟩
    · rw [if_neg e] at hi ⊢
      have := h.ino i hi
      exact ⟨this.1, this.2.1, by omega, this.2.2.2⟩
  · show T2.next ≤ _
    omega
  · rcases List.mem_append.1 he with he | he
    · exact h.nm e he
    · rw [List.mem_singleton] at he
      subst he
      exact hnm
theorem GoodS.mk' {s : TrS} (h : GoodS s) (p : Nm) (k : Int) : GoodS (((s.mk' p k).run s).2) := by
  refine run_all h ?_
  cases hr : s.mk' p k with
  | err e => trivial
  | ok s' =>
    show GoodS s'
    unfold TrS.mk' at hr
    obtain ⟨x, hx, hr⟩ := Res.bind_ok hr
    obtain ⟨_, h1, hr⟩ := Res.bind_ok hr
    obtain ⟨_, h2, hr⟩ := Res.bind_ok hr
    obtain ⟨_, h3, hr⟩ := Res.bind_ok hr
    have h1 := stopB_ok h1
    have h2 := stopB_ok h2
    have h3 := stopB_ok h3
    simp only [decide_eq_false_iff_not, ne_eq, Decidable.not_not, Int.not_le] at h1 h2 h3
    cases hr
    have hs := place_ok hx
    exact (h.mkx hs.dir hs.name (h.zero (hs.ino ▸ h1)) h2 h3).1
/-- one name more of a file -/
theorem GoodS.lnkx {s : TrS} (h : GoodS s) {x : SpotS} {i : Int} (hd : s.kind x.dir = 1) (hnm : nameL x.name = true) (hf : s.n.find x.dir x.name = none) (hc : s.n.count x.dir < 64) (hi : s.t.has i = true) (hk : s.kind i ≠ 1) (hl : (s.t.at i).links < 8) :
    GoodS (s.add x i) ∧ (s.add x i).n = ⟨s.n.m ++ [((x.dir, x.name), i)], set s.n.c x.dir (s.n.count x.dir + 1)⟩ ∧ TabUpd s.t (s.add x i).t i { s.t.at i with links := (s.t.at i).links + 1 } true := by
  have hok := TrS.ok.add h.ok x i
  have hi1 : i ≠ 1 := fun e => hk (by unfold TrS.kind; rw [e, h.r1])
  have hin := h.ino i hi
  have hgi := h.good.ino i (has_mem.1 hi) hi1
  have hle := h.dlt hd
  have hl0 := (h.ok.t.x i).l0
  have hnx := h.next
  have hl := link_eq (s := s.t) (i := i) (by' := 1) hi (Or.inl rfl) hi1 ⟨by omega, by omega⟩
  obtain ⟨X, hX⟩ : ∃ X : InS, X = { s.t.at i with links := (s.t.at i).links + 1 } := ⟨_, rfl⟩
  have hXi : X.ino = i := by rw [hX]; exact hin.1
  rw [← hX] at hl ⊢
  have hu := keep_upd (s := s.t) h.nd X (decide ((1 : Int) < 0))
  have e1 : ∀ z : Bool, (!(decide ((1 : Int) < 0) && z)) = true := fun z => by cases z <;> decide
  rw [e1, hXi] at hu
  have hae := add_eq h hnm (h.dlt hd) (i := i) (by omega) hf hc
  unfold TrS.add at hok ⊢
  rw [hl] at hok ⊢
  rw [hae] at hok ⊢
  simp only at hok ⊢
  generalize s.t.keep X (decide ((1 : Int) < 0)) = T2 at *
  have hat : ∀ j, T2.at j = if i = j then X else s.t.at j := fun j => by rw [hu.at' j]; rfl
  have hhas : ∀ j, T2.has j = s.t.has j := fun j => by
    rw [hu.has j]
    split
    · rename_i e; rw [← e, hi]
    · rfl
  have hkind : ∀ d, (T2.at d).kind = (s.t.at d).kind := fun d => by
    rw [hat]
    split
    · rename_i e; rw [← e, hX]
    · rfl
  refine ⟨⟨hok, ⟨fun e he => ?_, ?_, ?_, fun j hj h1 => ?_⟩, hu.nd, ?_, ?_, fun j hj => ?_, ?_, fun e he => ?_⟩, trivial, hu⟩
  · show T2.has e.2 = true ∧ (T2.at e.1.1).kind = 1
    rw [hhas, hkind]
    rcases List.mem_append.1 he with he | he
    · exact h.good.ent e he
    · rw [List.mem_singleton] at he
      subst he
      exact ⟨hi, hd⟩
  · show namesN (s.n.m ++ _) 1 = 0
    rw [namesN_snoc, if_neg hi1]
    exact h.good.one
  · show (T2.at 1).links ≠ 0
    rw [hat, if_neg hi1, h.r1]
    decide
  · have hj : s.t.has j = true := by rw [← hhas]; exact has_mem.2 hj
    obtain ⟨g1, g2, g3, g4⟩ := h.good.ino j (has_mem.1 hj) h1
    have hR : Rch (s.n.m ++ [((x.dir, x.name), i)]) j := g3.perm fun e he => List.mem_append_left _ he
    show (T2.at j).links = (namesN (s.n.m ++ _) j : Nat) ∧ (T2.at j).links ≠ 0 ∧ Rch (s.n.m ++ _) j ∧ ((T2.at j).kind = 1 → namesN (s.n.m ++ _) j = 1)
    rw [namesN_snoc, hkind, hat]
    by_cases e : i = j
    · subst e
      rw [if_pos rfl, if_pos rfl]
      exact ⟨by rw [hX]; show (s.t.at i).links + 1 = _; rw [g1]; rfl, by rw [hX]; show (s.t.at i).links + 1 ≠ 0; omega, hR, fun e => absurd e hk⟩
    · rw [if_neg e, if_neg e]
      exact ⟨g1, g2, hR, g4⟩
  · show T2.at 1 = _
    rw [hat, if_neg hi1, h.r1]
  · show T2.has 1 = true
    rw [hhas, h.h1]
  · show (T2.at j).ino = j ∧ 1 ≤ j ∧ j < T2.next ∧ (T2.at j).opens = 0
    have hj : s.t.has j = true := by rw [← hhas]; exact hj
    have := h.ino j hj
    rw [hat, hu.next]
    split
    · rename_i e
      subst e
      rw [hX]
      exact this
    · exact this
  · show T2.next ≤ _
    rw [hu.next]
    exact h.next
  · rcases List.mem_append.1 he with he | he
    · exact h.nm e he
    · rw [List.mem_singleton] at he
      subst he
      exact hnm
theorem GoodS.res_has {s : TrS} (h : GoodS s) : ∀ (l : List Nm) (d i : Int), s.t.has d = true → s.res d l = .ok i → s.t.has i = true
  | [], d, i, hd, hr => by
    cases hr
    exact hd
  | n :: l, d, i, hd, hr => by
    unfold TrS.res at hr
    split at hr
    · cases hr
    · cases e : s.n.find d n with
      | none => rw [e] at hr; cases hr
      | some j =>
        rw [e] at hr
        exact res_has h l j i (h.good.ent _ ((mem_iff_get h.ok.n.nd (d, n) j).2 e)).1 hr
theorem resolve_ok {s : TrS} {p : Nm} {i : Int} (h : s.resolve p = .ok i) : ∃ l, namesOf p = some l ∧ s.res 1 l = .ok i := by
  unfold TrS.resolve at h
  cases e : namesOf p with
  | none => rw [e] at h; cases h
  | some l => rw [e] at h; exact ⟨l, rfl, h⟩
theorem GoodS.lnk {s : TrS} (h : GoodS s) (p q : Nm) : GoodS (((s.lnk p q).run s).2) := by
  refine run_all h ?_
  cases hr : s.lnk p q with
  | err e => trivial
  | ok s' =>
    show GoodS s'
    unfold TrS.lnk at hr
    obtain ⟨i, hi, hr⟩ := Res.bind_ok hr
    obtain ⟨_, h1, hr⟩ := Res.bind_ok hr
    obtain ⟨x, hx, hr⟩ := Res.bind_ok hr
    obtain ⟨_, h2, hr⟩ := Res.bind_ok hr
    obtain ⟨_, h3, hr⟩ := Res.bind_ok hr
    obtain ⟨_, h4, hr⟩ := Res.bind_ok hr
    have h1 := stopB_ok h1
    have h2 := stopB_ok h2
    have h3 := stopB_ok h3
    have h4 := stopB_ok h4
    simp only [decide_eq_false_iff_not, ne_eq, Decidable.not_not, Int.not_le] at h1 h2 h3 h4
    cases hr
    obtain ⟨l, -, hl⟩ := resolve_ok hi
    have hs := place_ok hx
    exact (h.lnkx hs.dir hs.name (h.zero (hs.ino ▸ h2)) h4 (h.res_has l 1 i h.h1 hl) h1 h3).1
theorem drop_eq {s : DirS} {d i : Int} {n : Nm} (hf : s.find d n = some i) : (s.drop d n).2 = ⟨del s.m (d, n), set s.c d (s.count d - 1)⟩ := by
  unfold DirS.drop
  rw [if_neg (by rw [hf]; simp)]
/-- a name goes -/
theorem GoodS.dropx {s : TrS} (h : GoodS s) {x : SpotS} (hf : s.n.find x.dir x.name = some x.ino) (ho : s.kind x.ino = 1 → ¬ 0 < s.n.count x.ino) :
    GoodS (s.drop x) ∧ (s.drop x).n = ⟨del s.n.m (x.dir, x.name), set s.n.c x.dir (s.n.count x.dir - 1)⟩ ∧ TabUpd s.t (s.drop x).t x.ino { s.t.at x.ino with links := (s.t.at x.ino).links - 1 } (decide ((s.t.at x.ino).links ≠ 1)) := by
  have hok := TrS.ok.drop h.ok x
  have hmem := (mem_iff_get h.ok.n.nd (x.dir, x.name) x.ino).2 hf
  have hent := h.good.ent _ hmem
  have hi : s.t.has x.ino = true := hent.1
  have hi1 : x.ino ≠ 1 := fun e => namesN_zero.1 h.good.one _ hmem e
  have hin := h.ino _ hi
  have hgi := h.good.ino _ (has_mem.1 hi) hi1
  have hl0 := (h.ok.t.x x.ino).l0
  have hl8 := (h.ok.t.x x.ino).l1
  have hout : ∀ e ∈ s.n.m, e.1.1 ≠ x.ino := fun e he e1 => by
    by_cases hk : s.kind x.ino = 1
    · exact count_zero h.ok.n (ho hk) e he e1
    · exact hk (by rw [← e1]; exact (h.good.ent e he).2)
  have hl := link_eq (s := s.t) (i := x.ino) (by' := -1) hi (Or.inr rfl) hi1 ⟨by omega, by omega⟩
  have eLm : (s.t.at x.ino).links + -1 = (s.t.at x.ino).links - 1 := by omega
  rw [eLm] at hl
  obtain ⟨X, hX⟩ : ∃ X : InS, X = { s.t.at x.ino with links := (s.t.at x.ino).links - 1 } := ⟨_, rfl⟩
  have hXi : X.ino = x.ino := by rw [hX]; exact hin.1
  have hXl : X.links = (s.t.at x.ino).links - 1 := by rw [hX]
  have hXo : X.opens = 0 := by rw [hX]; exact hin.2.2.2
  rw [← hX] at hl ⊢
  have hu := keep_upd (s := s.t) h.nd X (decide ((-1 : Int) < 0))
  have e1 : (!(decide ((-1 : Int) < 0) && decide (X.links + X.opens = 0))) = decide ((s.t.at x.ino).links ≠ 1) := by
    rw [hXl, hXo, show decide ((-1 : Int) < 0) = true from rfl, Bool.true_and]
    by_cases e : (s.t.at x.ino).links = 1
    · rw [e]; decide
    · rw [decide_eq_false (by omega), decide_eq_true e]; rfl
  rw [e1, hXi] at hu
  have hde := drop_eq hf
  unfold TrS.drop at hok ⊢
  rw [hl, hde] at hok ⊢
  simp only at hok ⊢
  generalize s.t.keep X (decide ((-1 : Int) < 0)) = T2 at *
  have hat : ∀ j, x.ino ≠ j → T2.at j = s.t.at j := fun j hj => by rw [hu.at' j, if_neg hj]
  have hhas : ∀ j, x.ino ≠ j → T2.has j = s.t.has j := fun j hj => by rw [hu.has j, if_neg hj]
  have hnn := namesN_del s.n.m (x.dir, x.name) x.ino h.ok.n.nd hf
  have hni := hnn x.ino
  rw [if_pos rfl] at hni
  have hRc : ∀ j, j ≠ x.ino → Rch s.n.m j → Rch (del s.n.m (x.dir, x.name)) j := fun j hj hr => Rch.cut hout (fun e he e2 => mem_del.2 ⟨he, fun ek => e2 (by
    have h1 := (mem_iff_get h.ok.n.nd e.1 e.2).1 he
    rw [ek] at h1
    have h2 : get s.n.m (x.dir, x.name) = some x.ino := hf
    rw [h2] at h1
    exact (Option.some.inj h1).symm)⟩) hr hj
  refine ⟨⟨hok, ⟨fun e he => ?_, ?_, ?_, fun j hj h1 => ?_⟩, hu.nd, ?_, ?_, fun j hj => ?_, ?_, fun e he => ?_⟩, trivial, hu⟩
  · have hem := (mem_del.1 he).1
    have hee := h.good.ent e hem
    show T2.has e.2 = true ∧ (T2.at e.1.1).kind = 1
    rw [hat _ (Ne.symm (hout e hem))]
    refine ⟨?_, hee.2⟩
    by_cases e2 : x.ino = e.2
    · have h2 : 1 ≤ namesN (del s.n.m (x.dir, x.name)) x.ino := namesN_pos he e2.symm
      rw [hu.has, if_pos e2]
      have h1 := hgi.1
      refine decide_eq_true ?_
      omega
    · rw [hhas _ e2]; exact hee.1
  · show namesN (del s.n.m _) 1 = 0
    have := hnn 1
    have := h.good.one
    omega
  · show (T2.at 1).links ≠ 0
    rw [hat _ hi1, h.r1]
    decide
  · have hj : T2.has j = true := has_mem.2 hj
    show (T2.at j).links = (namesN (del s.n.m _) j : Nat) ∧ (T2.at j).links ≠ 0 ∧ Rch (del s.n.m _) j ∧ ((T2.at j).kind = 1 → namesN (del s.n.m _) j = 1)
    by_cases e : x.ino = j
    · subst e
      rw [hu.has, if_pos rfl] at hj
      have hj2 := of_decide_eq_true hj
      have hat2 := hu.at' x.ino
      rw [if_pos rfl, hj, if_pos rfl] at hat2
      rw [hat2]
      refine ⟨by rw [hXl]; omega, by rw [hXl]; omega, ?_, fun hk => ?_⟩
      · obtain ⟨e, he, e2⟩ := namesN_ex (m := del s.n.m (x.dir, x.name)) (i := x.ino) (by omega)
        rw [← e2]
        refine .lead e he (hRc _ (hout e (mem_del.1 he).1) (h.dir (h.good.ent e (mem_del.1 he).1).2))
      · have := hgi.2.2.2 (by rw [hX] at hk; exact hk)
        omega
    · rw [hhas _ e] at hj
      have g := h.good.ino j (has_mem.1 hj) h1
      have := hnn j
      rw [if_neg e, Nat.add_zero] at this
      rw [hat _ e, this]
      exact ⟨g.1, g.2.1, hRc _ (Ne.symm e) g.2.2.1, g.2.2.2⟩
  · show T2.at 1 = _
    rw [hat _ hi1, h.r1]
  · show T2.has 1 = true
    rw [hhas _ hi1, h.h1]
  · show (T2.at j).ino = j ∧ 1 ≤ j ∧ j < T2.next ∧ (T2.at j).opens = 0
    have hj : T2.has j = true := hj
    rw [hu.next]
    by_cases e : x.ino = j
    · subst e
      have hj2 := hj
      rw [hu.has, if_pos rfl] at hj2
      have hat2 := hu.at' x.ino
      rw [if_pos rfl, hj2, if_pos rfl] at hat2
      rw [hat2]
      exact ⟨hXi, hin.2.1, hin.2.2.1, hXo⟩
    · rw [hhas _ e] at hj
      rw [hat _ e]
      exact h.ino j hj
  · show T2.next ≤ _
    rw [hu.next]
    exact h.next
  · exact h.nm e (mem_del.1 he).1
theorem GoodS.rmdir {s : TrS} (h : GoodS s) (p : Nm) : GoodS (((s.rmdir p).run s).2) := by
  refine run_all h ?_
  cases hr : s.rmdir p with
  | err e => trivial
  | ok s' =>
    show GoodS s'
    unfold TrS.rmdir at hr
    obtain ⟨x, hx, hr⟩ := Res.bind_ok hr
    obtain ⟨_, h1, hr⟩ := Res.bind_ok hr
    obtain ⟨_, h2, hr⟩ := Res.bind_ok hr
    obtain ⟨_, h3, hr⟩ := Res.bind_ok hr
    have h1 := stopB_ok h1
    have h3 := stopB_ok h3
    simp only [decide_eq_false_iff_not] at h1 h3
    cases hr
    have hs := place_ok hx
    exact (h.dropx (find_some hs.ino.symm h1) fun _ => h3).1
theorem GoodS.unlink {s : TrS} (h : GoodS s) (p : Nm) : GoodS (((s.unlink p).run s).2) := by
  refine run_all h ?_
  cases hr : s.unlink p with
  | err e => trivial
  | ok s' =>
    show GoodS s'
    unfold TrS.unlink at hr
    obtain ⟨x, hx, hr⟩ := Res.bind_ok hr
    obtain ⟨_, h1, hr⟩ := Res.bind_ok hr
    obtain ⟨_, h2, hr⟩ := Res.bind_ok hr
    have h1 := stopB_ok h1
    have h2 := stopB_ok h2
    simp only [decide_eq_false_iff_not] at h1 h2
    cases hr
    have hs := place_ok hx
    exact (h.dropx (find_some hs.ino.symm h1) fun hk => absurd hk h2).1
/-- a size -/
theorem GoodS.cutx {s : TrS} (h : GoodS s) {i n : Int} (he : (s.t.cut i n).1 = 0) :
    GoodS ⟨(s.t.cut i n).2, s.n⟩ ∧ s.t.has i = true ∧ TabUpd s.t (s.t.cut i n).2 i { s.t.at i with size := n } true := by
  have hok := h.ok.t.cut i n
  unfold TabS.cut at he hok ⊢
  split at he
  · exact absurd he (show ¬ (60 : Int) = 0 by decide)
  split at he
  · exact absurd he (show ¬ (63 : Int) = 0 by decide)
  split at he
  · exact absurd he (show ¬ (67 : Int) = 0 by decide)
  rename_i h1 h2 h3
  rw [if_neg h1, if_neg h2, if_neg h3] at hok ⊢
  have hi : s.t.has i = true := by simpa using h1
  have hin := h.ino i hi
  have hi1 : i ≠ 1 := fun e => h2 (by rw [e, h.r1])
  obtain ⟨X, hX⟩ : ∃ X : InS, X = { s.t.at i with size := n } := ⟨_, rfl⟩
  have hXi : X.ino = i := by rw [hX]; exact hin.1
  rw [← hX] at hok ⊢
  have hu := keep_upd (s := s.t) h.nd X false
  rw [show ∀ z : Bool, (!(false && z)) = true from fun z => rfl, hXi] at hu
  simp only at hok ⊢
  generalize s.t.keep X false = T2 at *
  have hat : ∀ j, T2.at j = if i = j then X else s.t.at j := fun j => by rw [hu.at' j]; rfl
  have hhas : ∀ j, T2.has j = s.t.has j := fun j => by
    rw [hu.has j]
    split
    · rename_i e; rw [← e, hi]
    · rfl
  have hsame : ∀ d, (T2.at d).kind = (s.t.at d).kind ∧ (T2.at d).links = (s.t.at d).links ∧ (T2.at d).ino = (s.t.at d).ino ∧ (T2.at d).opens = (s.t.at d).opens := fun d => by
    rw [hat]
    split
    · rename_i e; subst e; rw [hX]; exact ⟨rfl, rfl, rfl, rfl⟩
    · exact ⟨rfl, rfl, rfl, rfl⟩
  refine ⟨⟨⟨hok, h.ok.n⟩, ⟨fun e he => ?_, h.good.one, ?_, fun j hj h1 => ?_⟩, hu.nd, ?_, ?_, fun j hj => ?_, ?_, h.nm⟩, hi, hu⟩
  · show T2.has e.2 = true ∧ (T2.at e.1.1).kind = 1
    rw [hhas, (hsame _).1]
    exact h.good.ent e he
  · show (T2.at 1).links ≠ 0
    rw [(hsame 1).2.1]
    exact h.good.root
  · have hj : s.t.has j = true := by rw [← hhas]; exact has_mem.2 hj
    show (T2.at j).links = _ ∧ (T2.at j).links ≠ 0 ∧ _ ∧ ((T2.at j).kind = 1 → _)
    rw [(hsame j).1, (hsame j).2.1]
    exact h.good.ino j (has_mem.1 hj) h1
  · show T2.at 1 = _
    rw [hat, if_neg hi1, h.r1]
  · show T2.has 1 = true
    rw [hhas, h.h1]
  · show (T2.at j).ino = j ∧ 1 ≤ j ∧ j < T2.next ∧ (T2.at j).opens = 0
    have hj : s.t.has j = true := by rw [← hhas]; exact hj
    rw [(hsame j).2.2.1, (hsame j).2.2.2, hu.next]
    exact h.ino j hj
  · show T2.next ≤ _
    rw [hu.next]
    exact h.next
theorem GoodS.trunc {s : TrS} (h : GoodS s) (p : Nm) (n : Int) : GoodS (((s.trunc p n).run s).2) := by
  refine run_all h ?_
  cases hr : s.trunc p n with
  | err e => trivial
  | ok s' =>
    show GoodS s'
    unfold TrS.trunc at hr
    obtain ⟨i, -, hr⟩ := Res.bind_ok hr
    obtain ⟨_, h1, hr⟩ := Res.bind_ok hr
    have h1 := stopB_ok h1
    simp only [decide_eq_false_iff_not, ne_eq, Decidable.not_not] at h1
    cases hr
    exact (h.cutx h1).1
theorem tr0_good : GoodS tr0 := by
  refine ⟨tr0_ok, ⟨fun e he => absurd he (by simp [tr0]), rfl, by decide, fun i hi h1 => ?_⟩, by decide, by decide, by decide, fun i hi => ?_, by decide, fun e he => absurd he (by simp [tr0])⟩
  · have hi : i ∈ [(1 : Int)] := hi
    rw [List.mem_singleton] at hi
    exact absurd hi h1
  · have hi := has_mem.1 hi
    have hi : i ∈ [(1 : Int)] := hi
    rw [List.mem_singleton] at hi
    subst hi
    exact ⟨by decide, by decide, by decide, by decide⟩
end Esch
/- whatever is done, all hangs together: rename -/
namespace Esch
open Go

theorem find_drop {s : DirS} {d : Int} {n : Nm} (k : DK) : get (s.drop d n).2.m k = if (d, n) = k then none else get s.m k := by
  unfold DirS.drop
  split
  · rename_i h
    split
    · rename_i e; rw [← e]; exact h
    · rfl
  · exact get_del _ _ _
theorem count_drop {s : DirS} {d i : Int} {n : Nm} (hf : s.find d n = some i) (d' : Int) : (s.drop d n).2.count d' = if d = d' then s.count d - 1 else s.count d' := by
  rw [drop_eq hf, count_set]
theorem res_app (s : TrS) : ∀ (l k : List Nm) (d : Int), s.res d (l ++ k) = (s.res d l).bind fun j => s.res j k
  | [], _, _ => rfl
  | n :: l, k, d => by
    show s.res d (n :: (l ++ k)) = (s.res d (n :: l)).bind _
    have e : ∀ l', s.res d (n :: l') = if s.kind d ≠ 1 then .err 62 else match s.n.find d n with
      | none => .err 60
      | some i => s.res i l' := fun l' => rfl
    rw [e, e]
    by_cases hk : s.kind d ≠ 1
    · rw [if_pos hk, if_pos hk]; rfl
    · rw [if_neg hk, if_neg hk]
      cases s.n.find d n with
      | none => rfl
      | some j => exact res_app s l k j
theorem res_one {s : TrS} {d i : Int} {a : Nm} : s.res d [a] = .ok i ↔ s.kind d = 1 ∧ s.n.find d a = some i := by
  unfold TrS.res
  constructor
  · intro h
    split at h
    · cases h
    · rename_i hk
      cases e : s.n.find d a with
      | none => rw [e] at h; cases h
      | some j => rw [e] at h; cases h; exact ⟨by simpa using hk, rfl⟩
  · rintro ⟨h1, h2⟩
    rw [if_neg (by simpa using h1), h2]
    rfl
theorem res_snoc {s : TrS} {d i : Int} {l : List Nm} {a : Nm} (h : s.res d (l ++ [a]) = .ok i) : ∃ d', s.res d l = .ok d' ∧ s.kind d' = 1 ∧ s.n.find d' a = some i := by
  rw [res_app] at h
  obtain ⟨d', h1, h2⟩ := Res.bind_ok h
  exact ⟨d', h1, res_one.1 h2⟩
/-- a directory has one path -/
theorem GoodS.uniq {s : TrS} (h : GoodS s) : ∀ (n : Nat) (l k : List Nm) (i : Int), l.length ≤ n → s.res 1 l = .ok i → s.res 1 k = .ok i → s.kind i = 1 → l = k := by
  have hone : ∀ (l : List Nm) (a : Nm), s.res 1 (l ++ [a]) ≠ .ok 1 := fun l a hr => by
    obtain ⟨d, -, -, hf⟩ := res_snoc hr
    exact namesN_zero.1 h.good.one _ ((mem_iff_get h.ok.n.nd (d, a) 1).2 hf) rfl
  intro n
  induction n with
  | zero =>
    intro l k i hn h1 h2 hk
    obtain rfl : l = [] := List.length_eq_zero_iff.1 (by omega)
    have h1 : (Res.ok 1 : Res Int) = .ok i := h1
    cases h1
    rcases List.eq_nil_or_concat k with rfl | ⟨k', a, rfl⟩
    · rfl
    · rw [List.concat_eq_append] at h2
      exact absurd h2 (hone _ _)
  | succ n ih =>
    intro l k i hn h1 h2 hk
    rcases List.eq_nil_or_concat l with rfl | ⟨l', a, rfl⟩
    · have h1 : (Res.ok 1 : Res Int) = .ok i := h1
      cases h1
      rcases List.eq_nil_or_concat k with rfl | ⟨k', a, rfl⟩
      · rfl
      · rw [List.concat_eq_append] at h2
        exact absurd h2 (hone _ _)
    · rw [List.concat_eq_append] at h1 hn ⊢
      rcases List.eq_nil_or_concat k with rfl | ⟨k', b, rfl⟩
      · have h2 : (Res.ok 1 : Res Int) = .ok i := h2
        cases h2
        exact absurd h1 (hone _ _)
      · rw [List.concat_eq_append] at h2 ⊢
        obtain ⟨d1, r1, k1, f1⟩ := res_snoc h1
        obtain ⟨d2, r2, k2, f2⟩ := res_snoc h2
        have m1 := (mem_iff_get h.ok.n.nd (d1, a) i).2 f1
        have m2 := (mem_iff_get h.ok.n.nd (d2, b) i).2 f2
        have hi1 : i ≠ 1 := fun e => namesN_zero.1 h.good.one _ m1 e
        have e := namesN_one ((h.good.ino i (has_mem.1 (h.good.ent _ m1).1) hi1).2.2.2 hk) m1 m2 rfl rfl
        cases e
        rw [ih l' k' d1 (by rw [List.length_append, List.length_singleton] at hn; omega) r1 r2 k1]
/-- a walk that meets nothing bad goes on as it did -/
theorem res_keep {s s' : TrS} (bad : Int → Prop) (hk : ∀ d a j, s.kind d = 1 → s.n.find d a = some j → ¬ bad j → s'.kind d = 1 ∧ s'.n.find d a = some j) :
    ∀ (l : List Nm) (d0 d : Int), s.res d0 l = .ok d → (∀ pre suf j, l = pre ++ suf → pre ≠ [] → s.res d0 pre = .ok j → ¬ bad j) → s'.res d0 l = .ok d
  | [], _, _, h, _ => h
  | n :: l, d0, d, h, hb => by
    rw [show n :: l = [n] ++ l from rfl, res_app] at h ⊢
    obtain ⟨j, h1, h2⟩ := Res.bind_ok h
    obtain ⟨k1, f1⟩ := res_one.1 h1
    have hj := hb [n] l j rfl (by simp) h1
    rw [res_one.2 (hk d0 n j k1 f1 hj)]
    refine res_keep bad hk l j d h2 fun pre suf i e hp hr => hb (n :: pre) suf i (by rw [e]; rfl) (by simp) ?_
    rw [show n :: pre = [n] ++ pre from rfl, res_app, h1]
    exact hr
theorem res_rch {s : TrS} (hn : (s.n.m.map (·.1)).Nodup) : ∀ (l : List Nm) (d0 d : Int), s.res d0 l = .ok d → Rch s.n.m d0 → Rch s.n.m d
  | [], _, _, h, hr => by cases h; exact hr
  | n :: l, d0, d, h, hr => by
    rw [show n :: l = [n] ++ l from rfl, res_app] at h
    obtain ⟨j, h1, h2⟩ := Res.bind_ok h
    exact res_rch hn l j d h2 (.lead ((d0, n), j) ((mem_iff_get hn (d0, n) j).2 (res_one.1 h1).2) hr)
/-- one entry stands elsewhere -/
theorem GoodS.move {s : TrS} (h : GoodS s) {d d' i : Int} {n n' : Nm} (hf : s.n.find d n = some i) (hf' : s.n.find d' n' = none) (hd' : s.kind d' = 1) (hn' : nameL n' = true) (hc : s.n.count d' < 64 ∨ d' = d)
    (hR : s.kind i = 1 → Rch (del s.n.m (d, n) ++ [((d', n'), i)]) d') :
    GoodS ⟨s.t, (((s.n.drop d n).2).add d' n' i).2⟩ ∧ (((s.n.drop d n).2).add d' n' i).2.m = del s.n.m (d, n) ++ [((d', n'), i)] := by
  have hok : TrS.ok ⟨s.t, (((s.n.drop d n).2).add d' n' i).2⟩ := ⟨h.ok.t, (h.ok.n.drop d n).add d' n' i⟩
  have hmem := (mem_iff_get h.ok.n.nd (d, n) i).2 hf
  have hent := h.good.ent _ hmem
  have hin := h.ino i hent.1
  have hle := h.dlt hd'
  have hnx := h.next
  have hE : (((s.n.drop d n).2).add d' n' i).2.m = del s.n.m (d, n) ++ [((d', n'), i)] := by
    have h1 : (s.n.drop d n).2.find d' n' = none := by
      show get (s.n.drop d n).2.m (d', n') = none
      rw [find_drop]
      split
      · rfl
      · exact hf'
    have h2 : ((s.n.drop d n).2).count d' < 64 := by
      rw [count_drop hf]
      have h64 := h.ok.n.le d
      split
      · omega
      · rename_i e; rcases hc with hc | hc
        · exact hc
        · exact absurd hc.symm e
    unfold DirS.add
    rw [if_neg (by rw [hn']; decide), if_neg (by omega), if_neg (by rw [h1]; decide), if_neg (by omega)]
    show set (s.n.drop d n).2.m (d', n') i = _
    rw [set_miss _ _ _ (get_none.1 h1), drop_eq hf]
  generalize (((s.n.drop d n).2).add d' n' i).2 = D at *
  have hnn := namesN_del s.n.m (d, n) i h.ok.n.nd hf
  have hN : ∀ j, namesN (del s.n.m (d, n) ++ [((d', n'), i)]) j = namesN s.n.m j := fun j => by
    rw [namesN_snoc, ← hnn j]
    show (if i = j then _ else _) = _
    split <;> omega
  have hRd : Rch (del s.n.m (d, n) ++ [((d', n'), i)]) d' := by
    by_cases hk : s.kind i = 1
    · exact hR hk
    · refine Rch.perm (l := del s.n.m (d, n)) (fun e he => List.mem_append_left _ he) (Rch.cut (j := i) (fun e he e1 => hk (by rw [← e1]; exact (h.good.ent e he).2)) (fun e he e2 => mem_del.2 ⟨he, fun ek => e2 ?_⟩) (h.dir hd') (fun e => hk (by rw [← e]; exact hd')))
      have h1 := (mem_iff_get h.ok.n.nd e.1 e.2).1 he
      rw [ek] at h1
      have h2 : get s.n.m (d, n) = some i := hf
      rw [h2] at h1
      exact (Option.some.inj h1).symm
  have hRi : Rch (del s.n.m (d, n) ++ [((d', n'), i)]) i := .lead ((d', n'), i) (by simp) hRd
  have hRa : ∀ j, Rch s.n.m j → Rch (del s.n.m (d, n) ++ [((d', n'), i)]) j := fun j hr => Rch.via (fun e he => by
    by_cases ek : e.1 = (d, n)
    · refine Or.inr ?_
      have h1 := (mem_iff_get h.ok.n.nd e.1 e.2).1 he
      rw [ek] at h1
      have h2 : get s.n.m (d, n) = some i := hf
      rw [h2] at h1
      rw [← Option.some.inj h1]
      exact hRi
    · exact Or.inl (List.mem_append_left _ (mem_del.2 ⟨he, ek⟩))) hr
  refine ⟨⟨hok, ⟨fun e he => ?_, ?_, h.good.root, fun j hj h1 => ?_⟩, h.nd, h.r1, h.h1, h.ino, h.next, fun e he => ?_⟩, hE⟩
  · have he : e ∈ D.m := he
    rw [hE] at he
    rcases List.mem_append.1 he with he | he
    · exact h.good.ent e (mem_del.1 he).1
    · rw [List.mem_singleton] at he
      subst he
      exact ⟨hent.1, hd'⟩
  · show namesN D.m 1 = 0
    rw [hE, hN]
    exact h.good.one
  · show (s.t.at j).links = (namesN D.m j : Nat) ∧ (s.t.at j).links ≠ 0 ∧ Rch D.m j ∧ ((s.t.at j).kind = 1 → namesN D.m j = 1)
    rw [hE, hN]
    have g := h.good.ino j hj h1
    exact ⟨g.1, g.2.1, hRa j g.2.2.1, g.2.2.2⟩
  · have he : e ∈ D.m := he
    rw [hE] at he
    rcases List.mem_append.1 he with he | he
    · exact h.nm e (mem_del.1 he).1
    · rw [List.mem_singleton] at he
      subst he
      exact hn'
theorem inside_no {p q : Nm} {lp lq : List Nm} (hp : namesOf p = some lp) (hq : namesOf q = some lq) (h : insideOf (namesOf q) (namesOf p) = false) : ¬ ∃ suf, lq = lp ++ suf := by
  rintro ⟨suf, rfl⟩
  rw [hp, hq] at h
  unfold insideOf at h
  simp only [List.length_append, Bool.and_eq_false_iff, decide_eq_false_iff_not] at h
  rcases h with h | h
  · omega
  · exact h (by simp)
/-- what a rename comes to, that was no other one's: x goes to y; of y what was there is gone -/
structure RenOk (s : TrS) (p q : Nm) (x y : SpotS) : Prop where
  sx : SpotOk s p x
  sy : SpotOk s q y
  x0 : x.ino ≠ 0
  ne : x.ino ≠ y.ino
  ins : s.kind x.ino = 1 → insideOf (namesOf q) (namesOf p) = false
  free : y.ino = 0 → s.n.count y.dir < 64 ∨ y.dir = x.dir
  dir : y.ino ≠ 0 → s.kind x.ino = 1 → s.kind y.ino = 1 ∧ ¬ 0 < s.n.count y.ino
  file : y.ino ≠ 0 → s.kind x.ino ≠ 1 → s.kind y.ino ≠ 1
theorem rename_ok {s s' : TrS} {p q : Nm} (h : s.rename p q = .ok s') : ∃ x y, SpotOk s p x ∧ SpotOk s q y ∧ x.ino ≠ 0 ∧ ((x.ino = y.ino ∧ s' = s) ∨ (RenOk s p q x y ∧ s' = s.renS x y)) := by
  unfold TrS.rename at h
  obtain ⟨x, hx, h⟩ := Res.bind_ok h
  obtain ⟨_, h1, h⟩ := Res.bind_ok h
  obtain ⟨y, hy, h⟩ := Res.bind_ok h
  have h1 := stopB_ok h1
  simp only [decide_eq_false_iff_not] at h1
  have hx := place_ok hx
  have hy := place_ok hy
  refine ⟨x, y, hx, hy, h1, ?_⟩
  split at h
  · rename_i e
    cases h
    exact Or.inl ⟨e, rfl⟩
  · rename_i e
    obtain ⟨_, h2, h⟩ := Res.bind_ok h
    obtain ⟨_, h3, h⟩ := Res.bind_ok h
    have h2 := stopB_ok h2
    cases h
    refine Or.inr ⟨⟨hx, hy, h1, e, fun hk => ?_, fun hy0 => ?_, fun hy0 hk => ?_, fun hy0 hk => ?_⟩, rfl⟩
    · rw [decide_eq_true hk, Bool.true_and] at h2
      exact h2
    · rw [if_pos hy0] at h3
      have h3 := stopB_ok h3
      simp only [Bool.and_eq_false_iff, decide_eq_false_iff_not, ne_eq, Decidable.not_not, Int.not_le] at h3
      exact h3
    · rw [if_neg hy0, if_pos hk] at h3
      obtain ⟨_, h4, h5⟩ := Res.bind_ok h3
      have h4 := stopB_ok h4
      have h5 := stopB_ok h5
      simp only [decide_eq_false_iff_not, ne_eq, Decidable.not_not] at h4 h5
      exact ⟨h4, h5⟩
    · rw [if_neg hy0, if_neg hk] at h3
      have h3 := stopB_ok h3
      simpa using h3
/-- what the tree is behind a rename -/
structure Moved (s s' : TrS) (p q : Nm) (x y : SpotS) : Prop where
  good : GoodS s'
  find : ∀ k, get s'.n.m k = if (y.dir, y.name) = k then some x.ino else if (x.dir, x.name) = k then none else get s.n.m k
  at' : ∀ j, j ≠ y.ino → s'.t.at j = s.t.at j
  has : ∀ j, j ≠ y.ino → s'.t.has j = s.t.has j
  tab : y.ino = 0 → s'.t = s.t
  path : ∀ l, namesOf q = some l → s'.res 1 l.dropLast = .ok y.dir
  ydir : s'.kind y.dir = 1
  noout : y.ino ≠ 0 → ∀ e ∈ s.n.m, e.1.1 ≠ y.ino
  xy : y.ino = 0 ∨ y.dir ≠ y.ino ∧ x.dir ≠ y.ino
theorem GoodS.renx {s : TrS} (h : GoodS s) {p q : Nm} {x y : SpotS} (hr : RenOk s p q x y) : Moved s (s.renS x y) p q x y := by
  obtain ⟨hx, hy, hx0, hne, hins, hfree, hdir, hfile⟩ := hr
  have fx := find_some hx.ino.symm hx0
  have mx := (mem_iff_get h.ok.n.nd (x.dir, x.name) x.ino).2 fx
  have hkey : (y.dir, y.name) ≠ (x.dir, x.name) := fun e => hne (by
    have e1 : y.dir = x.dir := congrArg Prod.fst e
    have e2 : y.name = x.name := congrArg Prod.snd e
    rw [hx.ino, hy.ino, e1, e2])
  have hnoout : y.ino ≠ 0 → ∀ e ∈ s.n.m, e.1.1 ≠ y.ino := fun hy0 e he e1 => by
    by_cases hk : s.kind x.ino = 1
    · exact count_zero h.ok.n (hdir hy0 hk).2 e he e1
    · exact hfile hy0 hk (by rw [← e1]; exact (h.good.ent e he).2)
  have hxy : y.ino = 0 ∨ y.dir ≠ y.ino ∧ x.dir ≠ y.ino := by
    by_cases hy0 : y.ino = 0
    · exact Or.inl hy0
    · exact Or.inr ⟨hnoout hy0 _ ((mem_iff_get h.ok.n.nd (y.dir, y.name) y.ino).2 (find_some hy.ino.symm hy0)), hnoout hy0 _ mx⟩
  obtain ⟨s1, hs1⟩ : ∃ s1, s1 = if y.ino ≠ 0 then s.drop y else s := ⟨_, rfl⟩
  have hren : s.renS x y = ⟨s1.t, (((s1.n.drop x.dir x.name).2).add y.dir y.name x.ino).2⟩ := by rw [hs1]; rfl
  rw [hren]
  have hA : GoodS s1 ∧ (∀ k, get s1.n.m k = if (y.dir, y.name) = k then none else get s.n.m k) ∧ (∀ j, j ≠ y.ino → s1.t.at j = s.t.at j) ∧ (∀ j, j ≠ y.ino → s1.t.has j = s.t.has j) ∧ (y.ino = 0 → s1.t = s.t) ∧ (s1.n.count y.dir < 64 ∨ y.dir = x.dir) := by
    by_cases hy0 : y.ino = 0
    · rw [if_neg (by simpa using hy0)] at hs1
      subst hs1
      refine ⟨h, fun k => ?_, fun _ _ => rfl, fun _ _ => rfl, fun _ => rfl, hfree hy0⟩
      split
      · rename_i e
        rw [← e]
        exact h.zero (hy.ino ▸ hy0)
      · rfl
    · rw [if_pos hy0] at hs1
      subst hs1
      have fy := find_some hy.ino.symm hy0
      obtain ⟨g1, g2, g3⟩ := h.dropx fy fun hk => by
        by_cases hkx : s.kind x.ino = 1
        · exact (hdir hy0 hkx).2
        · exact absurd hk (hfile hy0 hkx)
      refine ⟨g1, fun k => ?_, fun j hj => ?_, fun j hj => ?_, fun e => absurd e hy0, ?_⟩
      · rw [g2]; exact get_del _ _ _
      · rw [g3.at' j, if_neg (Ne.symm hj)]
      · rw [g3.has j, if_neg (Ne.symm hj)]
      · rw [g2, count_set, if_pos rfl]
        have := h.ok.n.le y.dir
        exact Or.inl (by omega)
  obtain ⟨g1, g2, g3, g4, g5, g6⟩ := hA
  have fx1 : s1.n.find x.dir x.name = some x.ino := by
    show get s1.n.m _ = _
    rw [g2, if_neg hkey]
    exact fx
  have fy1 : s1.n.find y.dir y.name = none := by
    show get s1.n.m _ = _
    rw [g2, if_pos rfl]
  have kk : ∀ d, s.kind d = 1 → d ≠ y.ino → s1.kind d = 1 := fun d hd hne => by
    unfold TrS.kind at *
    rw [g3 d hne]
    exact hd
  have hyd : y.dir ≠ y.ino := by
    rcases hxy with h0 | h0
    · rw [h0]
      have := h.dlt hy.dir
      omega
    · exact h0.1
  have hyk : s1.kind y.dir = 1 := kk _ hy.dir hyd
  -- the entries, and how paths go on in them
  obtain ⟨lq, hlq, hlq0, hrq, hnq, hsq⟩ := hy.ex
  obtain ⟨lp, hlp, hlp0, hrp, hnp, hsp⟩ := hx.ex
  have hlast : s.res 1 lp = .ok x.ino := by
    rw [← hsp, res_app, hrp]
    exact res_one.2 ⟨hx.dir, fx⟩
  have hfin : ∀ n' : DirS, (∀ k, get n'.m k = if (y.dir, y.name) = k then some x.ino else if (x.dir, x.name) = k then none else get s.n.m k) → (⟨s1.t, n'⟩ : TrS).res 1 lq.dropLast = .ok y.dir := fun n' hn' => by
    refine res_keep (s := s) (fun j => j = x.ino ∨ (y.ino ≠ 0 ∧ j = y.ino)) (fun d a j hk hf hb => ⟨?_, ?_⟩) lq.dropLast 1 y.dir hrq (fun pre suf j e hp hr hb => ?_)
    · refine kk d hk fun e => ?_
      have hm := (mem_iff_get h.ok.n.nd (d, a) j).2 hf
      by_cases hy0 : y.ino = 0
      · have := (h.dlt hk).1; omega
      · exact hnoout hy0 _ hm e
    · show get n'.m (d, a) = some j
      have hf : get s.n.m (d, a) = some j := hf
      rw [hn', if_neg, if_neg]
      · exact hf
      · intro e
        rw [← e] at hf
        have fx : get s.n.m (x.dir, x.name) = some x.ino := fx
        rw [fx] at hf
        exact hb (Or.inl (Option.some.inj hf).symm)
      · intro e
        by_cases hy0 : y.ino = 0
        · have : get s.n.m (y.dir, y.name) = none := h.zero (hy.ino ▸ hy0)
          rw [← e, this] at hf
          cases hf
        · have : get s.n.m (y.dir, y.name) = some y.ino := find_some hy.ino.symm hy0
          rw [← e, this] at hf
          exact hb (Or.inr ⟨hy0, (Option.some.inj hf).symm⟩)
    · rw [e, res_app, hr] at hrq
      have hsuf : s.res j suf = .ok y.dir := hrq
      have hjk : s.kind j = 1 := by
        cases suf with
        | nil => cases hsuf; exact hy.dir
        | cons a suf =>
          rw [show a :: suf = [a] ++ suf from rfl, res_app] at hsuf
          obtain ⟨j2, h1, -⟩ := Res.bind_ok hsuf
          exact (res_one.1 h1).1
      rcases hb with hb | ⟨hy0, hb⟩
      · subst hb
        have := h.uniq _ pre lp _ (Nat.le_refl _) hr hlast hjk
        subst this
        exact inside_no hlp hlq (hins hjk) ⟨suf ++ [y.name], by rw [← hsq, e, List.append_assoc]⟩
      · subst hb
        cases suf with
        | nil =>
          have hsuf : (Res.ok y.ino : Res Int) = .ok y.dir := hsuf
          injection hsuf with e1
          exact hyd e1.symm
        | cons a suf =>
          rw [show a :: suf = [a] ++ suf from rfl, res_app] at hsuf
          obtain ⟨j2, h1, -⟩ := Res.bind_ok hsuf
          exact hnoout hy0 _ ((mem_iff_get h.ok.n.nd (_, a) j2).2 (res_one.1 h1).2) rfl
  have hget : ∀ k, get (del s1.n.m (x.dir, x.name) ++ [((y.dir, y.name), x.ino)]) k = if (y.dir, y.name) = k then some x.ino else if (x.dir, x.name) = k then none else get s.n.m k := fun k => by
    have hno : get (del s1.n.m (x.dir, x.name)) (y.dir, y.name) = none := by rw [get_del, g2, if_pos rfl]; split <;> rfl
    rw [← set_miss _ _ _ (get_none.1 hno), get_set, get_del, g2]
    split
    · rfl
    · split
      · rfl
      · rfl
  have hnd : ((del s1.n.m (x.dir, x.name) ++ [((y.dir, y.name), x.ino)]).map (·.1)).Nodup := by
    have hno : get (del s1.n.m (x.dir, x.name)) (y.dir, y.name) = none := by rw [get_del, g2, if_pos rfl]; split <;> rfl
    rw [← set_miss _ _ _ (get_none.1 hno)]
    exact set_nodup _ _ (g1.ok.n.nd.sublist (List.filter_sublist.map _))
  obtain ⟨m1, m2⟩ := g1.move fx1 fy1 hyk hy.name g6 fun _ => res_rch (s := ⟨s1.t, ⟨del s1.n.m (x.dir, x.name) ++ [((y.dir, y.name), x.ino)], []⟩⟩) hnd lq.dropLast 1 y.dir (hfin _ hget) .one
  have hg2 : ∀ k, get (((s1.n.drop x.dir x.name).2).add y.dir y.name x.ino).2.m k = if (y.dir, y.name) = k then some x.ino else if (x.dir, x.name) = k then none else get s.n.m k := fun k => by rw [m2]; exact hget k
  exact ⟨m1, hg2, g3, g4, g5, fun l hl => by
    rw [hlq] at hl
    cases hl
    exact hfin _ hg2, hyk, hnoout, hxy⟩
theorem GoodS.rename {s : TrS} (h : GoodS s) (p q : Nm) : GoodS (((s.rename p q).run s).2) := by
  refine run_all h ?_
  cases hr : s.rename p q with
  | err e => trivial
  | ok s' =>
    show GoodS s'
    obtain ⟨x, y, -, -, -, ⟨-, rfl⟩ | ⟨h1, rfl⟩⟩ := rename_ok hr
    · exact h
    · exact (h.renx h1).good
/-- a step of law 22 -/
def TrS.step (s : TrS) (k z : Int) (p q : Nm) : Int × TrS :=
  if k = 1 then (s.mk' p 1).run s else if k = 2 then (s.rmdir p).run s else if k = 3 then (s.mk' p 2).run s else if k = 4 then (s.lnk p q).run s
  else if k = 5 then (s.unlink p).run s else if k = 6 then (s.rename p q).run s else if k = 7 then (s.trunc p z).run s else (0, s)
theorem GoodS.step {s : TrS} (h : GoodS s) (k z : Int) (p q : Nm) : GoodS (s.step k z p q).2 := by
  unfold TrS.step
  split; · exact h.mk' _ _
  split; · exact h.rmdir _
  split; · exact h.mk' _ _
  split; · exact h.lnk _ _
  split; · exact h.unlink _
  split; · exact h.rename _ _
  split; · exact h.trunc _ _
  exact h
end Esch
/- how much a step adds; and what TreeChecks asks in the end, plain -/
namespace Esch
open Go

theorem set_len {K V : Type} [DecidableEq K] (m : List (K × V)) (k : K) (v : V) : (Esch.set m k v).length ≤ m.length + 1 := by
  cases h : get m k with
  | none => rw [set_miss _ _ _ (get_none.1 h)]; simp
  | some u =>
    obtain ⟨pre, post, rfl, hp⟩ := get_some h
    rw [set_hit _ _ _ _ _ hp]; simp
theorem del_len {K V : Type} [DecidableEq K] (m : List (K × V)) (k : K) : (del m k).length ≤ m.length := List.length_filter_le _ _
theorem dadd_len (s : DirS) (d : Int) (n : Nm) (i : Int) : (s.add d n i).2.m.length ≤ s.m.length + 1 := by
  unfold DirS.add
  split; · exact Nat.le_succ _
  split; · exact Nat.le_succ _
  split; · exact Nat.le_succ _
  split; · exact Nat.le_succ _
  exact set_len _ _ _
theorem ddrop_len (s : DirS) (d : Int) (n : Nm) : (s.drop d n).2.m.length ≤ s.m.length := by
  unfold DirS.drop
  split
  · exact Nat.le_refl _
  · exact del_len _ _
theorem keep_len (s : TabS) (x : InS) (b : Bool) : (s.keep x b).m.length ≤ s.m.length + 1 := by
  unfold TabS.keep
  split
  · exact Nat.le_trans (del_len _ _) (set_len _ _ _)
  · exact set_len _ _ _
theorem link_len (s : TabS) (i d : Int) : (s.link i d).2.m.length ≤ s.m.length + 1 := by
  unfold TabS.link
  split; · exact Nat.le_succ _
  split; · exact Nat.le_succ _
  split; · exact Nat.le_succ _
  exact keep_len _ _ _
theorem cut_len (s : TabS) (i d : Int) : (s.cut i d).2.m.length ≤ s.m.length + 1 := by
  unfold TabS.cut
  split; · exact Nat.le_succ _
  split; · exact Nat.le_succ _
  split; · exact Nat.le_succ _
  exact keep_len _ _ _
theorem make_len (s : TabS) (k : Int) : (s.make k).2.m.length ≤ s.m.length + 1 := by
  unfold TabS.make
  split; · exact Nat.le_succ _
  split; · exact Nat.le_succ _
  exact set_len _ _ _
def LenR (s s' : TrS) : Prop := s'.n.m.length ≤ s.n.m.length + 1 ∧ s'.t.m.length ≤ s.t.m.length + 2
theorem len_add (s : TrS) (x : SpotS) (i : Int) : (s.add x i).n.m.length ≤ s.n.m.length + 1 ∧ (s.add x i).t.m.length ≤ s.t.m.length + 1 := ⟨dadd_len _ _ _ _, link_len _ _ _⟩
theorem len_drop (s : TrS) (x : SpotS) : (s.drop x).n.m.length ≤ s.n.m.length ∧ (s.drop x).t.m.length ≤ s.t.m.length + 1 := ⟨ddrop_len _ _ _, link_len _ _ _⟩
theorem LenR.same (s : TrS) : LenR s s := ⟨by omega, by omega⟩
theorem step_len (s : TrS) (k z : Int) (p q : Nm) : LenR s (s.step k z p q).2 := by
  have hmk : ∀ k, LenR s (((s.mk' p k).run s).2) := fun k => by
    refine run_all (P := LenR s) (LenR.same s) ?_
    unfold TrS.mk'
    refine Res.all_bind _ _ fun x _ => Res.all_bind _ _ fun _ _ => Res.all_bind _ _ fun _ _ => Res.all_bind _ _ fun _ _ => ?_
    have h1 := len_add ⟨(s.t.make k).2, s.n⟩ x (s.t.make k).1.1
    have h2 := make_len s.t k
    exact ⟨h1.1, by have := h1.2; show _ ≤ _; simp only at this; omega⟩
  have hdr : ∀ x, LenR s (s.drop x) := fun x => ⟨by have := (len_drop s x).1; omega, by have := (len_drop s x).2; omega⟩
  unfold TrS.step
  split; · exact hmk 1
  split
  · refine run_all (P := LenR s) (LenR.same s) ?_
    unfold TrS.rmdir
    exact Res.all_bind _ _ fun x _ => Res.all_bind _ _ fun _ _ => Res.all_bind _ _ fun _ _ => Res.all_bind _ _ fun _ _ => hdr x
  split; · exact hmk 2
  split
  · refine run_all (P := LenR s) (LenR.same s) ?_
    unfold TrS.lnk
    exact Res.all_bind _ _ fun i _ => Res.all_bind _ _ fun _ _ => Res.all_bind _ _ fun x _ => Res.all_bind _ _ fun _ _ => Res.all_bind _ _ fun _ _ => Res.all_bind _ _ fun _ _ => ⟨(len_add s x i).1, by have := (len_add s x i).2; omega⟩
  split
  · refine run_all (P := LenR s) (LenR.same s) ?_
    unfold TrS.unlink
    exact Res.all_bind _ _ fun x _ => Res.all_bind _ _ fun _ _ => Res.all_bind _ _ fun _ _ => hdr x
  split
  · refine run_all (P := LenR s) (LenR.same s) ?_
    unfold TrS.rename
    refine Res.all_bind _ _ fun x _ => Res.all_bind _ _ fun _ _ => Res.all_bind _ _ fun y _ => ?_
    split
    · exact LenR.same s
    · refine Res.all_bind _ _ fun _ _ => Res.all_bind _ _ fun _ _ => ?_
      unfold TrS.renS
      simp only
      obtain ⟨s1, h1⟩ : ∃ s1, s1 = if y.ino ≠ 0 then s.drop y else s := ⟨_, rfl⟩
      rw [← h1]
      have h2 : s1.n.m.length ≤ s.n.m.length ∧ s1.t.m.length ≤ s.t.m.length + 1 := by
        rw [h1]
        split
        · exact len_drop s y
        · exact ⟨Nat.le_refl _, Nat.le_succ _⟩
      have h3 := dadd_len (s1.n.drop x.dir x.name).2 y.dir y.name x.ino
      have h4 := ddrop_len s1.n x.dir x.name
      exact ⟨Nat.le_trans h3 (by omega), Nat.le_trans h2.2 (by omega)⟩
  split
  · refine run_all (P := LenR s) (LenR.same s) ?_
    unfold TrS.trunc
    exact Res.all_bind _ _ fun i _ => Res.all_bind _ _ fun _ _ => ⟨Nat.le_succ _, by have := cut_len s.t i z; show (s.t.cut i z).2.m.length ≤ _; omega⟩
  exact LenR.same s
/-- counts in any order -/
theorem namesN_perm {l m : List Ent} (h : l.Perm m) (i : Int) : namesN l i = namesN m i := (h.filter _).length_eq
theorem namesN_take {l : List Ent} {k : Nat} (hk : k < l.length) (i : Int) (d : Ent) : namesN (l.take (k + 1)) i = if (l.getD k d).2 = i then namesN (l.take k) i + 1 else namesN (l.take k) i := by
  rw [List.take_succ_eq_append_getElem hk, namesN_snoc, List.getD_eq_getElem?_getD, List.getElem?_eq_getElem hk]
  rfl
/-- what is asked of each inode in the end -/
theorem GoodS.last {s : TrS} (h : GoodS s) {i : Int} (hi : i ∈ s.t.m.map (·.1)) : s.t.has i = true ∧ (i ≠ 1 → (namesN s.n.m i : Int) = (s.t.at i).links ∧ ((s.t.at i).kind = 1 → (namesN s.n.m i : Int) = 1)) :=
  ⟨has_mem.2 hi, fun h1 => by
    obtain ⟨g1, -, -, g4⟩ := h.good.ino i hi h1
    exact ⟨g1.symm, fun hk => by rw [g4 hk]; rfl⟩⟩
end Esch
