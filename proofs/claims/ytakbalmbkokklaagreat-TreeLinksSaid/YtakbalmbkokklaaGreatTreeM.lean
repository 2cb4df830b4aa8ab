/- the tree, plain: what each call comes to; and what stays true -/
import Derived.Test.YtakbalmbkokklaaGreatDirM
import Derived.Test.YtakbalmbkokklaaGreatIno
import Derived.Test.YtakbalmbkokklaaGreatIno3
import Derived.Test.YtakbalmbkokklaaGreatPath2
namespace Esch
open Go

structure TrS where
  t : TabS
  n : DirS
structure SpotS where
  dir : Int
  name : Nm
  ino : Int
inductive Res (α : Type) where
  | ok : α → Res α
  | err : Int → Res α
def Res.bind {α β : Type} (r : Res α) (f : α → Res β) : Res β := match r with
  | .ok a => f a
  | .err e => .err e
def stopB (e : Int) (b : Bool) : Res Unit := if b = true then .err e else .ok ()
def TrS.kind (s : TrS) (i : Int) : Int := (s.t.at i).kind
def TrS.res (s : TrS) : Int → List Nm → Res Int
  | d, [] => .ok d
  | d, n :: l => if s.kind d ≠ 1 then .err 62 else match s.n.find d n with
    | none => .err 60
    | some i => s.res i l
def TrS.resolve (s : TrS) (p : Nm) : Res Int := match namesOf p with
  | none => .err 11
  | some l => s.res 1 l
def TrS.place (s : TrS) (p : Nm) (ofRoot : Int) : Res SpotS := match namesOf p with
  | none => .err 11
  | some l => if l = [] then .err ofRoot else (s.res 1 l.dropLast).bind fun d => if s.kind d ≠ 1 then .err 62 else .ok ⟨d, l.getLastD [], (s.n.find d (l.getLastD [])).getD 0⟩
def TrS.add (s : TrS) (x : SpotS) (i : Int) : TrS := ⟨(s.t.link i 1).2, (s.n.add x.dir x.name i).2⟩
def TrS.drop (s : TrS) (x : SpotS) : TrS := ⟨(s.t.link x.ino (-1)).2, (s.n.drop x.dir x.name).2⟩
/-- a call's error, and the tree behind it -/
def Res.run (s : TrS) (r : Res TrS) : Int × TrS := match r with
  | .ok s' => (0, s')
  | .err e => (e, s)
def TrS.mk' (s : TrS) (p : Nm) (kind : Int) : Res TrS := (s.place p 61).bind fun x =>
  (stopB 61 (decide (x.ino ≠ 0))).bind fun _ => (stopB 67 (decide (64 ≤ s.n.count x.dir))).bind fun _ =>
  (stopB (s.t.make kind).1.2 (decide ((s.t.make kind).1.2 ≠ 0))).bind fun _ => .ok (TrS.add ⟨(s.t.make kind).2, s.n⟩ x (s.t.make kind).1.1)
def TrS.rmdir (s : TrS) (p : Nm) : Res TrS := (s.place p 70).bind fun x =>
  (stopB 60 (decide (x.ino = 0))).bind fun _ => (stopB 62 (decide (s.kind x.ino ≠ 1))).bind fun _ => (stopB 64 (decide (0 < s.n.count x.ino))).bind fun _ => .ok (s.drop x)
def TrS.unlink (s : TrS) (p : Nm) : Res TrS := (s.place p 70).bind fun x =>
  (stopB 60 (decide (x.ino = 0))).bind fun _ => (stopB 63 (decide (s.kind x.ino = 1))).bind fun _ => .ok (s.drop x)
def TrS.lnk (s : TrS) (p q : Nm) : Res TrS := (s.resolve p).bind fun i => (stopB 63 (decide (s.kind i = 1))).bind fun _ => (s.place q 61).bind fun x =>
  (stopB 61 (decide (x.ino ≠ 0))).bind fun _ => (stopB 66 (decide (8 ≤ (s.t.at i).links))).bind fun _ => (stopB 67 (decide (64 ≤ s.n.count x.dir))).bind fun _ => .ok (s.add x i)
def TrS.renS (s : TrS) (x y : SpotS) : TrS :=
  let s1 := if y.ino ≠ 0 then s.drop y else s
  ⟨s1.t, (((s1.n.drop x.dir x.name).2).add y.dir y.name x.ino).2⟩
def TrS.rename (s : TrS) (p q : Nm) : Res TrS := (s.place p 70).bind fun x =>
  (stopB 60 (decide (x.ino = 0))).bind fun _ => (s.place q 61).bind fun y => if x.ino = y.ino then .ok s else
  (stopB 65 (decide (s.kind x.ino = 1) && insideOf (namesOf q) (namesOf p))).bind fun _ =>
  (if y.ino = 0 then stopB 67 (decide (64 ≤ s.n.count y.dir) && decide (y.dir ≠ x.dir))
   else if s.kind x.ino = 1 then (stopB 62 (decide (s.kind y.ino ≠ 1))).bind fun _ => stopB 64 (decide (0 < s.n.count y.ino))
   else stopB 63 (decide (s.kind y.ino = 1))).bind fun _ => .ok (s.renS x y)
def TrS.trunc (s : TrS) (p : Nm) (n : Int) : Res TrS := (s.resolve p).bind fun i =>
  (stopB (s.t.cut i n).1 (decide ((s.t.cut i n).1 ≠ 0))).bind fun _ => .ok ⟨(s.t.cut i n).2, s.n⟩
def tr0 : TrS := ⟨⟨[(1, ⟨1, 1, 1, 0, 0⟩)], 2⟩, ⟨[], []⟩⟩

/-- counts are what they count -/
structure DirS.ok (s : DirS) : Prop where
  nd : (s.m.map (·.1)).Nodup
  cnt : ∀ d, s.count d = ((s.m.filter (fun e => e.1.1 == d)).length : Nat)
  le : ∀ d, s.count d ≤ 64
theorem DirS.ok.nn {s : DirS} (h : s.ok) (d : Int) : 0 ≤ s.count d := by rw [h.cnt d]; omega
theorem count_set (s : DirS) (m : List Ent) (d d' v : Int) : (⟨m, set s.c d v⟩ : DirS).count d' = if d = d' then v else s.count d' := by
  unfold DirS.count
  simp only [get_set]
  split <;> rfl
theorem DirS.ok.add {s : DirS} (h : s.ok) (d : Int) (n : Nm) (i : Int) : ((s.add d n i).2).ok := by
  unfold DirS.add
  split
  · exact h
  split
  · exact h
  split
  · exact h
  split
  · exact h
  · rename_i h1 h2 h3 h4
    have hg : get s.m (d, n) = none := by
      unfold DirS.find at h3
      cases e : get s.m (d, n)
      · rfl
      · rw [e] at h3; simp at h3
    refine ⟨set_nodup _ _ h.nd, fun d' => ?_, fun d' => ?_⟩
    · rw [count_set, set_miss _ _ _ (get_none.1 hg)]
      simp only [List.filter_append, List.length_append]
      by_cases e : d = d'
      · subst e
        have h5 : ([((d, n), i)].filter (fun e : Ent => e.1.1 == d)).length = 1 := by simp
        rw [if_pos rfl, h.cnt d, h5]
        rfl
      · have h5 : ([((d, n), i)].filter (fun e : Ent => e.1.1 == d')).length = 0 := by simp [e]
        rw [if_neg e, h.cnt d', h5]
        omega
    · rw [count_set]
      split
      · omega
      · exact h.le d'
theorem filter_del (m : List Ent) (k : DK) (i : Int) (hnd : (m.map (·.1)).Nodup) (hg : get m k = some i) (d : Int) : ((del m k).filter (fun e => e.1.1 == d)).length + (if k.1 = d then 1 else 0) = (m.filter (fun e => e.1.1 == d)).length := by
  obtain ⟨pre, post, rfl, hp⟩ := get_some hg
  have hpost : ∀ p ∈ post, p.1 ≠ k := by
    intro p hp' e
    rw [List.map_append, List.nodup_append] at hnd
    have := (List.nodup_cons.1 hnd.2.1).1
    exact this (List.mem_map.2 ⟨p, hp', e⟩)
  have hd : del (pre ++ (k, i) :: post) k = pre ++ post := by
    unfold del
    rw [List.filter_append, List.filter_cons]
    have e1 : pre.filter (fun p => decide (p.1 ≠ k)) = pre := List.filter_eq_self.2 fun p hp' => by simpa using hp p hp'
    have e2 : post.filter (fun p => decide (p.1 ≠ k)) = post := List.filter_eq_self.2 fun p hp' => by simpa using hpost p hp'
    rw [e1, e2]; simp
  rw [hd]
  simp only [List.filter_append, List.length_append, List.filter_cons]
  by_cases e : k.1 = d
  · have h1 : (k.1 == d) = true := by simpa using e
    simp only [h1, if_true, if_pos e, List.length_cons]
    rfl
  · have h1 : (k.1 == d) = false := by simpa using e
    simp only [h1, Bool.false_eq_true, if_false, if_neg e, Nat.add_zero]
theorem DirS.ok.drop {s : DirS} (h : s.ok) (d : Int) (n : Nm) : ((s.drop d n).2).ok := by
  unfold DirS.drop
  split
  · exact h
  · rename_i hf
    obtain ⟨i, hi⟩ : ∃ i, get s.m (d, n) = some i := by
      unfold DirS.find at hf
      cases e : get s.m (d, n)
      · exact absurd e hf
      · exact ⟨_, rfl⟩
    refine ⟨?_, fun d' => ?_, fun d' => ?_⟩
    · exact h.nd.sublist (List.filter_sublist.map _)
    · rw [count_set]
      have hf := filter_del s.m (d, n) i h.nd hi d'
      by_cases e : d = d'
      · subst e
        rw [if_pos rfl, h.cnt d]
        rw [if_pos rfl] at hf
        show _ = (((del s.m (d, n)).filter (fun e => e.1.1 == d)).length : Int)
        omega
      · rw [if_neg e, h.cnt d']
        rw [if_neg e] at hf
        show _ = (((del s.m (d, n)).filter (fun e => e.1.1 == d')).length : Int)
        omega
    · rw [count_set]
      split
      · have := h.le d; omega
      · exact h.le d'
structure TabS.ok (s : TabS) : Prop where
  x : ∀ i, (s.at i).ok
  next : 0 ≤ s.next
theorem in0_ok : in0.ok := ⟨by decide, by decide, by decide, by decide⟩
theorem at_set (s : TabS) (i j : Int) (x : InS) (nx : Int) : (⟨set s.m i x, nx⟩ : TabS).at j = if i = j then x else s.at j := by
  unfold TabS.at; simp only [get_set]; split <;> rfl
theorem at_del (s : TabS) (i j : Int) (nx : Int) : (⟨del s.m i, nx⟩ : TabS).at j = if i = j then in0 else s.at j := by
  unfold TabS.at; simp only [get_del]; split <;> rfl
theorem TabS.ok.keep {s : TabS} (h : s.ok) {x : InS} (hx : x.ok) (may : Bool) : (s.keep x may).ok := by
  unfold TabS.keep
  split
  · refine ⟨fun i => ?_, h.next⟩
    have e := at_del ⟨set s.m x.ino x, s.next⟩ x.ino i s.next
    show ((⟨del (set s.m x.ino x) x.ino, s.next⟩ : TabS).at i).ok
    rw [e, at_set]
    split
    · exact in0_ok
    · exact h.x i
  · refine ⟨fun i => ?_, h.next⟩
    show ((⟨set s.m x.ino x, s.next⟩ : TabS).at i).ok
    rw [at_set]
    split
    · exact hx
    · exact h.x i
theorem TabS.ok.link {s : TabS} (h : s.ok) (i d : Int) : ((s.link i d).2).ok := by
  unfold TabS.link
  split
  · exact h
  split
  · exact h
  split
  · exact h
  · rename_i h3
    have := h.x i
    exact h.keep (x := { s.at i with links := (s.at i).links + d }) ⟨by show 0 ≤ (s.at i).links + d; omega, by show (s.at i).links + d ≤ 8; omega, this.o0, this.o1⟩ _
theorem TabS.ok.cut {s : TabS} (h : s.ok) (i n : Int) : ((s.cut i n).2).ok := by
  unfold TabS.cut
  split
  · exact h
  split
  · exact h
  split
  · exact h
  · have := h.x i
    show (s.keep { s.at i with size := n } false).ok
    exact h.keep (x := { s.at i with size := n }) ⟨this.l0, this.l1, this.o0, this.o1⟩ _
theorem TabS.ok.make {s : TabS} (h : s.ok) (k : Int) : ((s.make k).2).ok := by
  unfold TabS.make
  split
  · exact h
  split
  · exact h
  · refine ⟨fun i => ?_, by have := h.next; show 0 ≤ s.next + 1; omega⟩
    rw [at_set]
    split
    · exact ⟨Int.le_refl 0, (by decide : (0 : Int) ≤ 8), Int.le_refl 0, (by decide : (0 : Int) ≤ 128)⟩
    · exact h.x i
structure TrS.ok (s : TrS) : Prop where
  t : s.t.ok
  n : s.n.ok
theorem TrS.ok.add {s : TrS} (h : s.ok) (x : SpotS) (i : Int) : (s.add x i).ok := ⟨h.t.link _ _, h.n.add _ _ _⟩
theorem TrS.ok.drop {s : TrS} (h : s.ok) (x : SpotS) : (s.drop x).ok := ⟨h.t.link _ _, h.n.drop _ _⟩
theorem TrS.ok.renS {s : TrS} (h : s.ok) (x y : SpotS) : (s.renS x y).ok := by
  unfold TrS.renS
  simp only
  split
  · exact ⟨(h.drop y).t, (((h.drop y).n).drop _ _).add _ _ _⟩
  · exact ⟨h.t, (h.n.drop _ _).add _ _ _⟩
theorem tr0_ok : tr0.ok := by
  refine ⟨⟨fun i => ?_, by decide⟩, ⟨List.nodup_nil, fun d => rfl, fun d => by show (0 : Int) ≤ 64; decide⟩⟩
  show (((get [((1 : Int), (⟨1, 1, 1, 0, 0⟩ : InS))] i).getD in0)).ok
  unfold get
  split
  · exact ⟨by decide, by decide, by decide, by decide⟩
  · exact in0_ok
end Esch
