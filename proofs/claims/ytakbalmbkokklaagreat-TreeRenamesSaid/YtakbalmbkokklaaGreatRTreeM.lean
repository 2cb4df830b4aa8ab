/- the document's tree: never more than 64 inodes; the sorted list of names, plain -/
import Derived.Test.YtakbalmbkokklaaGreatPkTreeM
import Derived.Test.YtakbalmbkokklaaGreatPkRIno
import Derived.Test.YtakbalmbkokklaaGreatRDir3
namespace Esch
open Go

theorem keep_len64 {s : TabS} {x : InS} (h : s.has x.ino = true) (b : Bool) : (s.keep x b).m.length ≤ s.m.length := by
  have hs : (Esch.set s.m x.ino x).length = s.m.length := by
    obtain ⟨pre, post, hm, hp⟩ := find_split s h
    rw [KI.setEq hm hp, hm]; simp
  unfold TabS.keep
  split
  · exact Nat.le_trans (del_len _ _) (Nat.le_of_eq hs)
  · exact Nat.le_of_eq hs
def InoOk (s : TabS) : Prop := ∀ i, s.has i = true → (s.at i).ino = i
theorem link_len64 {s : TabS} (h : InoOk s) (i d : Int) : (s.link i d).2.m.length ≤ s.m.length := by
  unfold TabS.link
  split; · exact Nat.le_refl _
  split; · exact Nat.le_refl _
  split; · exact Nat.le_refl _
  rename_i h1 _ _
  have hh : s.has i = true := by simpa using h1
  exact keep_len64 (x := { s.at i with links := (s.at i).links + d }) (by show s.has (s.at i).ino = true; rw [h i hh]; exact hh) _
theorem cut_len64 {s : TabS} (h : InoOk s) (i n : Int) : (s.cut i n).2.m.length ≤ s.m.length := by
  unfold TabS.cut
  split; · exact Nat.le_refl _
  split; · exact Nat.le_refl _
  split; · exact Nat.le_refl _
  rename_i h1 _ _
  have hh : s.has i = true := by simpa using h1
  exact keep_len64 (x := { s.at i with size := n }) (by show s.has (s.at i).ino = true; rw [h i hh]; exact hh) _
theorem make_len64 {s : TabS} (h : s.m.length ≤ 64) (k : Int) : (s.make k).2.m.length ≤ 64 := by
  unfold TabS.make
  split; · exact h
  split; · exact h
  have := set_len s.m s.next (⟨s.next, k, 0, 0, 0⟩ : InS)
  show (Esch.set s.m s.next _).length ≤ 64
  omega
theorem make_ino {s : TabS} (h : InoOk s) (k : Int) : InoOk (s.make k).2 := by
  unfold TabS.make
  split; · exact h
  split; · exact h
  intro i hi
  rw [has_set _ _ _ _ _ s.next] at hi
  rw [at_set]
  split
  · rename_i e; exact e
  · rename_i e
    rw [if_neg e] at hi
    exact h i hi
theorem GoodS.inoOk {s : TrS} (h : GoodS s) : InoOk s.t := fun i hi => (h.ino i hi).1
theorem GoodS.step64 {s : TrS} (h : GoodS s) (h64 : s.t.m.length ≤ 64) (k z : Int) (p q : Nm) : (s.step k z p q).2.t.m.length ≤ 64 := by
  have hdr : ∀ x, (s.drop x).t.m.length ≤ 64 := fun x => Nat.le_trans (link_len64 h.inoOk _ _) h64
  have hmk : ∀ k, (((s.mk' p k).run s).2).t.m.length ≤ 64 := fun k => by
    refine run_all (P := fun s : TrS => s.t.m.length ≤ 64) h64 ?_
    unfold TrS.mk'
    refine Res.all_bind _ _ fun x _ => Res.all_bind _ _ fun _ _ => Res.all_bind _ _ fun _ _ => Res.all_bind _ _ fun _ _ => ?_
    exact Nat.le_trans (link_len64 (make_ino h.inoOk k) _ _) (make_len64 h64 k)
  unfold TrS.step
  split; · exact hmk 1
  split
  · refine run_all (P := fun s : TrS => s.t.m.length ≤ 64) h64 ?_
    unfold TrS.rmdir
    exact Res.all_bind _ _ fun x _ => Res.all_bind _ _ fun _ _ => Res.all_bind _ _ fun _ _ => Res.all_bind _ _ fun _ _ => hdr x
  split; · exact hmk 2
  split
  · refine run_all (P := fun s : TrS => s.t.m.length ≤ 64) h64 ?_
    unfold TrS.lnk
    exact Res.all_bind _ _ fun i _ => Res.all_bind _ _ fun _ _ => Res.all_bind _ _ fun x _ => Res.all_bind _ _ fun _ _ => Res.all_bind _ _ fun _ _ => Res.all_bind _ _ fun _ _ => Nat.le_trans (link_len64 h.inoOk _ _) h64
  split
  · refine run_all (P := fun s : TrS => s.t.m.length ≤ 64) h64 ?_
    unfold TrS.unlink
    exact Res.all_bind _ _ fun x _ => Res.all_bind _ _ fun _ _ => Res.all_bind _ _ fun _ _ => hdr x
  split
  · refine run_all (P := fun s : TrS => s.t.m.length ≤ 64) h64 ?_
    unfold TrS.rename
    refine Res.all_bind _ _ fun x _ => Res.all_bind _ _ fun _ _ => Res.all_bind _ _ fun y _ => ?_
    split
    · exact h64
    · refine Res.all_bind _ _ fun _ _ => Res.all_bind _ _ fun _ _ => ?_
      show (s.renS x y).t.m.length ≤ 64
      show (if y.ino ≠ 0 then s.drop y else s).t.m.length ≤ 64
      split
      · exact hdr y
      · exact h64
  split
  · refine run_all (P := fun s : TrS => s.t.m.length ≤ 64) h64 ?_
    unfold TrS.trunc
    exact Res.all_bind _ _ fun i _ => Res.all_bind _ _ fun _ _ => Nat.le_trans (cut_len64 h.inoOk _ _) h64
  exact h64
theorem GoodS.ki {s : TrS} (h : GoodS s) (h64 : s.t.m.length ≤ 64) : KI s.t := ⟨h.nd, fun p hp => by
  have hg := (mem_iff_get h.nd p.1 p.2).1 hp
  have hh : s.t.has p.1 = true := by unfold TabS.has; rw [hg]; rfl
  have := (h.ino p.1 hh).1
  unfold TabS.at at this
  rw [hg] at this
  exact this, h64⟩
/-- the list of all, in order -/
abbrev Srt (m L : List Ent) : Prop := SortedOf m (fun _ => true) L
theorem Srt.perm {m L : List Ent} (h : Srt m L) : L.Perm m := by
  have := h.1
  rwa [List.filter_eq_self.2 (fun _ _ => rfl)] at this
theorem Srt.mk' {m L : List Ent} (h1 : L.Perm m) (h2 : L.Pairwise (fun x y => entLt x y = true)) : Srt m L := ⟨by rw [List.filter_eq_self.2 (fun _ _ => rfl)]; exact h1, h2⟩
theorem Srt.get {m L : List Ent} (h : Srt m L) (hn : (m.map (·.1)).Nodup) (k : DK) : Esch.get L k = Esch.get m k := by
  have hp := h.perm
  have hnL : (L.map (·.1)).Nodup := (hp.map _).nodup_iff.2 hn
  cases e : Esch.get m k with
  | none => exact get_none.2 fun x hx => get_none.1 e x (hp.mem_iff.1 hx)
  | some i => exact (mem_iff_get hnL k i).1 (hp.mem_iff.2 ((mem_iff_get hn k i).2 e))
theorem Srt.cnt {m L : List Ent} (h : Srt m L) (d : Int) : (Go.Proofs.YtakbalmbkokklaaGreat.namesD' L d).length = (m.filter (fun e => e.1.1 == d)).length := by
  unfold Go.Proofs.YtakbalmbkokklaaGreat.namesD'
  rw [List.length_map]
  exact (h.perm.filter _).length_eq
/-- one more stands at its place -/
theorem Srt.ins {m L : List Ent} (h : Srt m L) {x : Ent} {k : Nat} (hk : Go.Proofs.YtakbalmbkokklaaGreat.InsAt L x.1 k) (hno : ∀ e ∈ m, e.1 ≠ x.1) : Srt (m ++ [x]) (L.take k ++ x :: L.drop k) := by
  obtain ⟨hkl, hlt, hge⟩ := hk
  refine Srt.mk' ?_ ?_
  · refine (List.perm_middle).trans ?_
    rw [List.take_append_drop]
    exact (List.Perm.cons x h.perm).trans (List.perm_append_singleton x m).symm
  · have h1 : (L.take k ++ L.drop k).Pairwise (fun x y => entLt x y = true) := by rw [List.take_append_drop]; exact h.2
    rw [List.pairwise_append] at h1 ⊢
    obtain ⟨p1, p2, p3⟩ := h1
    have hdr : ∀ y ∈ L.drop k, entLt x y = true := by
      have hfirst : ∀ y, L[k]? = some y → keyLt x.1 y.1 = true := fun y hy => by
        have hmem : y ∈ m := h.perm.mem_iff.1 (List.mem_of_getElem? hy)
        cases e : keyLt x.1 y.1 with
        | true => rfl
        | false => exact absurd (keyLt_total e (hge y hy)).symm (hno y hmem)
      cases hd : L.drop k with
      | nil => intro y hy; cases hy
      | cons a r =>
        have ha : L[k]? = some a := by
          have : (L.drop k)[0]? = some a := by rw [hd]; rfl
          rwa [List.getElem?_drop] at this
        intro y hy
        rcases List.mem_cons.1 hy with rfl | hy
        · exact hfirst _ ha
        · rw [hd, List.pairwise_cons] at p2
          exact keyLt_trans (hfirst a ha) (p2.1 y hy)
    refine ⟨p1, List.pairwise_cons.2 ⟨hdr, p2⟩, fun a ha b hb => ?_⟩
    rcases List.mem_cons.1 hb with rfl | hb
    · exact hlt a ha
    · exact p3 a ha b hb
/-- one goes -/
theorem Srt.del {m pre post : List Ent} {k : DK} {i : Int} (h : Srt m (pre ++ (k, i) :: post)) (hn : (m.map (·.1)).Nodup) : Srt (Esch.del m k) (pre ++ post) := by
  have hp := h.perm
  have hnL : ((pre ++ (k, i) :: post).map (·.1)).Nodup := (hp.map _).nodup_iff.2 hn
  have e : Esch.del (pre ++ (k, i) :: post) k = pre ++ post := by
    rw [List.map_append, List.map_cons, List.nodup_append, List.nodup_cons] at hnL
    obtain ⟨-, ⟨h2, -⟩, h3⟩ := hnL
    unfold Esch.del
    rw [List.filter_append, List.filter_cons]
    have e1 : pre.filter (fun p => decide (p.1 ≠ k)) = pre := List.filter_eq_self.2 fun p hp' => decide_eq_true fun e => h3 p.1 (List.mem_map.2 ⟨p, hp', rfl⟩) k (by simp) e
    have e2 : post.filter (fun p => decide (p.1 ≠ k)) = post := List.filter_eq_self.2 fun p hp' => decide_eq_true fun e => h2 (List.mem_map.2 ⟨p, hp', e⟩)
    rw [e1, e2]; simp
  refine Srt.mk' ?_ ?_
  · rw [← e]; exact hp.filter _
  · refine h.2.sublist ?_
    exact List.Sublist.append_left (List.sublist_cons_self _ _) pre
end Esch
