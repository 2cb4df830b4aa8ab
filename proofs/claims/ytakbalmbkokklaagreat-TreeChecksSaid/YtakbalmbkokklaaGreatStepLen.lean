/- how much a step adds; and what TreeChecks asks in the end, plain -/
import Derived.Test.YtakbalmbkokklaaGreatTreeGood3
namespace Esch
open Go

theorem set_len {K V : Type} [DecidableEq K] (m : List (K × V)) (k : K) (v : V) : (Esch.set m k v).length ≤ m.length + 1 := by
  cases h : get m k with
  | none => rw [set_miss _ _ _ (get_none.1 h)]; simp
  | some u =>
    obtain ⟨pre, post, rfl, hp⟩ := get_some h
    rw [set_hit _ _ _ _ _ hp]; simp
theorem del_len {K V : Type} [DecidableEq K] (m : List (K × V)) (k : K) : (del m k).length ≤ m.length := List.length_filter_le _ _
theorem dadd_len (s : DirS) (d : Int) (n : Nm) (i : Int) : (s.add d n i).2.m.length ≤ s.m.length + 1 := by
  unfold DirS.add
  split; · exact Nat.le_succ _
  split; · exact Nat.le_succ _
  split; · exact Nat.le_succ _
  split; · exact Nat.le_succ _
  exact set_len _ _ _
theorem ddrop_len (s : DirS) (d : Int) (n : Nm) : (s.drop d n).2.m.length ≤ s.m.length := by
  unfold DirS.drop
  split
  · exact Nat.le_refl _
  · exact del_len _ _
theorem keep_len (s : TabS) (x : InS) (b : Bool) : (s.keep x b).m.length ≤ s.m.length + 1 := by
  unfold TabS.keep
  split
  · exact Nat.le_trans (del_len _ _) (set_len _ _ _)
  · exact set_len _ _ _
theorem link_len (s : TabS) (i d : Int) : (s.link i d).2.m.length ≤ s.m.length + 1 := by
  unfold TabS.link
  split; · exact Nat.le_succ _
  split; · exact Nat.le_succ _
  split; · exact Nat.le_succ _
  exact keep_len _ _ _
theorem cut_len (s : TabS) (i d : Int) : (s.cut i d).2.m.length ≤ s.m.length + 1 := by
  unfold TabS.cut
  split; · exact Nat.le_succ _
  split; · exact Nat.le_succ _
  split; · exact Nat.le_succ _
  exact keep_len _ _ _
theorem make_len (s : TabS) (k : Int) : (s.make k).2.m.length ≤ s.m.length + 1 := by
  unfold TabS.make
  split; · exact Nat.le_succ _
  split; · exact Nat.le_succ _
  exact set_len _ _ _
def LenR (s s' : TrS) : Prop := s'.n.m.length ≤ s.n.m.length + 1 ∧ s'.t.m.length ≤ s.t.m.length + 2
theorem len_add (s : TrS) (x : SpotS) (i : Int) : (s.add x i).n.m.length ≤ s.n.m.length + 1 ∧ (s.add x i).t.m.length ≤ s.t.m.length + 1 := ⟨dadd_len _ _ _ _, link_len _ _ _⟩
theorem len_drop (s : TrS) (x : SpotS) : (s.drop x).n.m.length ≤ s.n.m.length ∧ (s.drop x).t.m.length ≤ s.t.m.length + 1 := ⟨ddrop_len _ _ _, link_len _ _ _⟩
theorem LenR.same (s : TrS) : LenR s s := ⟨by omega, by omega⟩
theorem step_len (s : TrS) (k z : Int) (p q : Nm) : LenR s (s.step k z p q).2 := by
  have hmk : ∀ k, LenR s (((s.mk' p k).run s).2) := fun k => by
    refine run_all (P := LenR s) (LenR.same s) ?_
    unfold TrS.mk'
    refine Res.all_bind _ _ fun x _ => Res.all_bind _ _ fun _ _ => Res.all_bind _ _ fun _ _ => Res.all_bind _ _ fun _ _ => ?_
    have h1 := len_add ⟨(s.t.make k).2, s.n⟩ x (s.t.make k).1.1
    have h2 := make_len s.t k
    exact ⟨h1.1, by have := h1.2; show _ ≤ _; simp only at this; omega⟩
  have hdr : ∀ x, LenR s (s.drop x) := fun x => ⟨by have := (len_drop s x).1; omega, by have := (len_drop s x).2; omega⟩
  unfold TrS.step
  split; · exact hmk 1
  split
  · refine run_all (P := LenR s) (LenR.same s) ?_
    unfold TrS.rmdir
    exact Res.all_bind _ _ fun x _ => Res.all_bind _ _ fun _ _ => Res.all_bind _ _ fun _ _ => Res.all_bind _ _ fun _ _ => hdr x
  split; · exact hmk 2
  split
  · refine run_all (P := LenR s) (LenR.same s) ?_
    unfold TrS.lnk
    exact Res.all_bind _ _ fun i _ => Res.all_bind _ _ fun _ _ => Res.all_bind _ _ fun x _ => Res.all_bind _ _ fun _ _ => Res.all_bind _ _ fun _ _ => Res.all_bind _ _ fun _ _ => ⟨(len_add s x i).1, by have := (len_add s x i).2; omega⟩
  split
  · refine run_all (P := LenR s) (LenR.same s) ?_
    unfold TrS.unlink
    exact Res.all_bind _ _ fun x _ => Res.all_bind _ _ fun _ _ => Res.all_bind _ _ fun _ _ => hdr x
  split
  · refine run_all (P := LenR s) (LenR.same s) ?_
    unfold TrS.rename
    refine Res.all_bind _ _ fun x _ => Res.all_bind _ _ fun _ _ => Res.all_bind _ _ fun y _ => ?_
    split
    · exact LenR.same s
    · refine Res.all_bind _ _ fun _ _ => Res.all_bind _ _ fun _ _ => ?_
      unfold TrS.renS
      simp only
      obtain ⟨s1, h1⟩ : ∃ s1, s1 = if y.ino ≠ 0 then s.drop y else s := ⟨_, rfl⟩
      rw [← h1]
      have h2 : s1.n.m.length ≤ s.n.m.length ∧ s1.t.m.length ≤ s.t.m.length + 1 := by
        rw [h1]
        split
        · exact len_drop s y
        · exact ⟨Nat.le_refl _, Nat.le_succ _⟩
      have h3 := dadd_len (s1.n.drop x.dir x.name).2 y.dir y.name x.ino
      have h4 := ddrop_len s1.n x.dir x.name
      exact ⟨Nat.le_trans h3 (by omega), Nat.le_trans h2.2 (by omega)⟩
  split
  · refine run_all (P := LenR s) (LenR.same s) ?_
    unfold TrS.trunc
    exact Res.all_bind _ _ fun i _ => Res.all_bind _ _ fun _ _ => ⟨Nat.le_succ _, by have := cut_len s.t i z; show (s.t.cut i z).2.m.length ≤ _; omega⟩
  exact LenR.same s
/-- counts in any order -/
theorem namesN_perm {l m : List Ent} (h : l.Perm m) (i : Int) : namesN l i = namesN m i := (h.filter _).length_eq
theorem namesN_take {l : List Ent} {k : Nat} (hk : k < l.length) (i : Int) (d : Ent) : namesN (l.take (k + 1)) i = if (l.getD k d).2 = i then namesN (l.take k) i + 1 else namesN (l.take k) i := by
  rw [List.take_succ_eq_append_getElem hk, namesN_snoc, List.getD_eq_getElem?_getD, List.getElem?_eq_getElem hk]
  rfl
/-- what is asked of each inode in the end -/
theorem GoodS.last {s : TrS} (h : GoodS s) {i : Int} (hi : i ∈ s.t.m.map (·.1)) : s.t.has i = true ∧ (i ≠ 1 → (namesN s.n.m i : Int) = (s.t.at i).links ∧ ((s.t.at i).kind = 1 → (namesN s.n.m i : Int) = 1)) :=
  ⟨has_mem.2 hi, fun h1 => by
    obtain ⟨g1, -, -, g4⟩ := h.good.ino i hi h1
    exact ⟨g1.symm, fun hk => by rw [g4 hk]; rfl⟩⟩
end Esch
