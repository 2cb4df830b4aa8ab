import Derived.Test.YtajbooppoohplaaGreatDoorMac
import Derived.Test.YtajbooppoohplaaGreatDoorStM
/- how much a record adds to a state; what stays of it -/
namespace Go.Proofs.YtajbooppoohplaaGreatDoor
open Go.RowKit Esch

theorem dadd_len' (s : DirS) (d : Int) (n : Nm) (i : Int) : (s.add d n i).2.m.length ≤ s.m.length + 1 := by
 unfold DirS.add
 exact mK135
theorem ddrop_len' (s : DirS) (d : Int) (n : Nm) : (s.drop d n).2.m.length ≤ s.m.length := by
 unfold DirS.drop
 split
 · exact Nat.le_refl _
 · exact del_len _ _
theorem keep_len' (s : TabS) (x : InS) (b : Bool) : (s.keep x b).m.length ≤ s.m.length + 1 := by
 unfold TabS.keep
 split
 · exact Nat.le_trans (del_len _ _) (set_len _ _ _)
 · exact set_len _ _ _
theorem link_len' (s : TabS) (i d : Int) : (s.link i d).2.m.length ≤ s.m.length + 1 := by
 unfold TabS.link
 exact mK136
theorem cut_len' (s : TabS) (i d : Int) : (s.cut i d).2.m.length ≤ s.m.length + 1 := by
 unfold TabS.cut
 exact mK136
theorem write_len' (s : TabS) (i o n a : Int) : (s.write i o n a).2.m.length ≤ s.m.length + 1 := by
 unfold TabS.write
 exact mK136
theorem move_len' (s : TabS) (i : Int) (l : List Mv) (t : Int) : (s.move i l t).2.m.length ≤ s.m.length + 1 := by
 unfold TabS.move
 exact mK136
theorem opn_len' (s : TabS) (i d : Int) : (s.opn i d).2.m.length ≤ s.m.length + 1 := by
 unfold TabS.opn
 exact mK136
theorem make_len' (s : TabS) (k : Int) : (s.make k).2.m.length ≤ s.m.length + 1 := by
 unfold TabS.make
 exact mK135
theorem opens_len' : ∀ (l : List Hd) (t : TabS), (opensDown t l).m.length ≤ t.m.length + l.length
  | [], _ => Nat.le_refl _
  | e :: l, t => by
    have h := opens_len' l (t.opn e.2 (-1)).2
    have h2 := opn_len' t e.2 (-1)
    show (opensDown (t.opn e.2 (-1)).2 l).m.length ≤ t.m.length + (l.length + 1)
    omega
/-- names, and inodes, behind a record -/
def LenR (s s' : TrS) (k : Nat) : Prop := s'.n.m.length ≤ s.n.m.length + 1 ∧ s'.t.m.length ≤ s.t.m.length + k
theorem lenR_drop (s : TrS) (x : SpotS) : (s.drop x).n.m.length ≤ s.n.m.length ∧ (s.drop x).t.m.length ≤ s.t.m.length + 1 := ⟨ddrop_len' _ _ _, link_len' _ _ _⟩
theorem lenR_same (s : TrS) (k : Nat) : LenR s s k := ⟨Nat.le_succ _, Nat.le_add_right _ _⟩
theorem lenR_mk (s : TrS) (p : Nm) (k : Int) : LenR s ((s.mk' p k).run s).2 2 := by
 refine run_all (P := fun s' => LenR s s' 2) (lenR_same s 2) ?_
 unfold TrS.mk'
 refine Res.all_bind _ _ fun x _ => Res.all_bind _ _ fun _ _ => Res.all_bind _ _ fun _ _ => Res.all_bind _ _ fun _ _ => ?_
 have h1 := link_len' (s.t.make k).2 (s.t.make k).1.1 1
 have h2 := make_len' s.t k
 exact ⟨dadd_len' _ _ _ _, Nat.le_trans h1 (by omega)⟩
theorem lenR_rmdir (s : TrS) (p : Nm) : LenR s ((s.rmdir p).run s).2 2 := by
 refine run_all (P := fun s' => LenR s s' 2) (lenR_same s 2) ?_
 unfold TrS.rmdir
 exact Res.all_bind _ _ fun x _ => Res.all_bind _ _ fun _ _ => Res.all_bind _ _ fun _ _ => Res.all_bind _ _ fun _ _ => ⟨by have := (lenR_drop s x).1; omega, by have := (lenR_drop s x).2; omega⟩
theorem lenR_unlink (s : TrS) (p : Nm) : LenR s ((s.unlink p).run s).2 2 := by
 refine run_all (P := fun s' => LenR s s' 2) (lenR_same s 2) ?_
 unfold TrS.unlink
 exact Res.all_bind _ _ fun x _ => Res.all_bind _ _ fun _ _ => Res.all_bind _ _ fun _ _ => ⟨by have := (lenR_drop s x).1; omega, by have := (lenR_drop s x).2; omega⟩
theorem lenR_lnk (s : TrS) (p q : Nm) : LenR s ((s.lnk p q).run s).2 2 := by
 refine run_all (P := fun s' => LenR s s' 2) (lenR_same s 2) ?_
 unfold TrS.lnk
 exact Res.all_bind _ _ fun i _ => Res.all_bind _ _ fun _ _ => Res.all_bind _ _ fun x _ => Res.all_bind _ _ fun _ _ => Res.all_bind _ _ fun _ _ => Res.all_bind _ _ fun _ _ => ⟨dadd_len' _ _ _ _, Nat.le_succ_of_le (link_len' _ _ _)⟩
theorem lenR_rename (s : TrS) (p q : Nm) : LenR s ((s.rename p q).run s).2 2 := by
 refine run_all (P := fun s' => LenR s s' 2) (lenR_same s 2) ?_
 unfold TrS.rename
 refine Res.all_bind _ _ fun x _ => Res.all_bind _ _ fun _ _ => Res.all_bind _ _ fun y _ => ?_
 split
 · exact lenR_same s 2
 · refine Res.all_bind _ _ fun _ _ => Res.all_bind _ _ fun _ _ => ?_
   unfold TrS.renS
   simp only
   obtain ⟨s1, h1⟩ : ∃ s1, s1 = if y.ino ≠ 0 then s.drop y else s := ⟨_, rfl⟩
   rw [← h1]
   have h2 : s1.n.m.length ≤ s.n.m.length ∧ s1.t.m.length ≤ s.t.m.length + 1 := by
    rw [h1]
    split
    · exact lenR_drop s y
    · exact ⟨Nat.le_refl _, Nat.le_succ _⟩
   have h3 := dadd_len' (s1.n.drop x.dir x.name).2 y.dir y.name x.ino
   have h4 := ddrop_len' s1.n x.dir x.name
   exact ⟨Nat.le_trans h3 (by omega), Nat.le_trans h2.2 (by omega)⟩
theorem lenR_trunc (s : TrS) (p : Nm) (n : Int) : LenR s ((s.trunc p n).run s).2 2 := by
 refine run_all (P := fun s' => LenR s s' 2) (lenR_same s 2) ?_
 unfold TrS.trunc
 exact Res.all_bind _ _ fun i _ => Res.all_bind _ _ fun _ _ => ⟨Nat.le_succ _, Nat.le_succ_of_le (cut_len' _ _ _)⟩
/-- what a record does to the lengths, and to what is noted -/
structure DoesR (s s' : StS) : Prop where
  len : LenR s.t s'.t (2 + s.h.m.length)
  o : s'.o = s.o
theorem doesR_same (s : StS) : DoesR s s := ⟨lenR_same _ _, rfl⟩
theorem LenR.more {s s' : TrS} {k m : Nat} (h : LenR s s' k) (hk : k ≤ m) : LenR s s' m := ⟨h.1, by have := h.2; omega⟩
theorem hsort_len (m : List Hd) : (hsort m).length = m.length := (List.mergeSort_perm m _).length_eq
theorem doesR_opn (s : StS) (o : OpS) (addr : Int) : DoesR s (s.opn o addr).2 := by
 unfold StS.opn
 cases s.t.resolve o.path with
 | err e => exact doesR_same s
 | ok i =>
   refine ite_p (P := fun r : RSt => DoesR s r.2) (doesR_same s) (ite_p (P := fun r : RSt => DoesR s r.2) (doesR_same s) (ite_p (P := fun r : RSt => DoesR s r.2) ⟨lenR_same _ _, rfl⟩ ⟨⟨Nat.le_succ _, ?_⟩, rfl⟩))
   exact Nat.le_trans (opn_len' s.t.t i 1) (by omega)
theorem doesR (s : StS) (o : OpS) (mv : List Mv) (addr : Int) : DoesR s (s.does o mv addr).2 := by
 have h2 : 2 ≤ 2 + s.h.m.length := Nat.le_add_right _ _
 unfold StS.does
 refine ite_p (P := fun r : RSt => DoesR s r.2) ⟨(lenR_mk _ _ _).more h2, rfl⟩ (ite_p (P := fun r : RSt => DoesR s r.2) ⟨(lenR_rmdir _ _).more h2, rfl⟩ (ite_p (P := fun r : RSt => DoesR s r.2) ⟨(lenR_mk _ _ _).more h2, rfl⟩ (ite_p (P := fun r : RSt => DoesR s r.2) ⟨(lenR_lnk _ _ _).more h2, rfl⟩ (ite_p (P := fun r : RSt => DoesR s r.2) ⟨(lenR_unlink _ _).more h2, rfl⟩ (ite_p (P := fun r : RSt => DoesR s r.2) ⟨(lenR_rename _ _ _).more h2, rfl⟩ (ite_p (P := fun r : RSt => DoesR s r.2) ⟨(lenR_trunc _ _ _).more h2, rfl⟩ (ite_p (P := fun r : RSt => DoesR s r.2) (doesR_opn s o addr) (ite_p (P := fun r : RSt => DoesR s r.2) ?_ (ite_p (P := fun r : RSt => DoesR s r.2) ?_ (ite_p (P := fun r : RSt => DoesR s r.2) ⟨lenR_same _ _, rfl⟩ (ite_p (P := fun r : RSt => DoesR s r.2) ?_ (ite_p (P := fun r : RSt => DoesR s r.2) ⟨⟨Nat.le_succ _, Nat.le_trans (move_len' s.t.t o.ino mv addr) (by omega)⟩, rfl⟩ (doesR_same s)))))))))))))
 · unfold StS.cls
   exact ite_p (P := fun r : RSt => DoesR s r.2) (doesR_same s) ⟨⟨Nat.le_succ _, Nat.le_trans (opn_len' _ _ _) (by omega)⟩, rfl⟩
 · unfold StS.wrt
   cases s.h.of o.client o.hd with
   | none => exact doesR_same s
   | some i => exact ⟨⟨Nat.le_succ _, Nat.le_trans (write_len' s.t.t i o.off o.data.size addr) (by omega)⟩, rfl⟩
 · refine ⟨⟨Nat.le_succ _, ?_⟩, rfl⟩
   have h := opens_len' ((hsort s.h.m).filter (s.h.old o.tick)) s.t.t
   have h3 := List.length_filter_le (s.h.old o.tick) (hsort s.h.m)
   rw [hsort_len] at h3
   exact Nat.le_trans h (by omega)
/-- few of all -/
structure StS.few (s : StS) (n : Nat) : Prop where
  nx : s.next = n
  nm : s.t.n.m.length ≤ n
  tm : s.t.t.m.length ≤ 1 + n * 202
theorem st0_few : st0.few 0 := ⟨rfl, Nat.le_refl _, by decide⟩
theorem few_apply {s : StS} (hok : s.ok) {n : Nat} (h : s.few n) (hn : n < 200) (kind : Int) (hk : kind = 1 ∨ kind = 2) (text : ByteArray) : (s.apply s.next kind text).2.few (n + 1) ∧ (s.apply s.next kind text).1.2.2 = 0 := by
 have h1 := h.nx
 have hnx : ({ s with next := s.next + 1 } : StS).few (n + 1) := ⟨by show s.next + 1 = ((n + 1 : Nat) : Int); omega, Nat.le_succ_of_le h.nm, by have := h.tm; show s.t.t.m.length ≤ _; omega⟩
 unfold StS.apply
 rw [if_neg (by omega)]
 by_cases h2 : kind = 2
 · rw [if_pos h2]; exact ⟨hnx, rfl⟩
 rw [if_neg h2]
 cases hd : decOp text with
 | none => exact ⟨hnx, rfl⟩
 | some r =>
   simp only
   by_cases hs : oseen s.o r.1.client r.1.seq = true
   · rw [if_pos hs]; exact ⟨hnx, rfl⟩
   · rw [if_neg hs]
     have hr := doesR { s with next := s.next + 1 } r.1 r.2 s.next
     have hb := (show ({ s with next := s.next + 1 } : StS).ok from ⟨hok.t, hok.hk, by have := hok.hl; show (s.h.m.length : Int) ≤ s.next + 1; omega, by have := hok.n0; show 0 ≤ s.next + 1; omega, by show s.next + 1 ≤ 16384; omega⟩).does r.1 r.2 s.next
     have hl := hok.hl
     refine ⟨⟨hb.nx.trans (by show s.next + 1 = ((n + 1 : Nat) : Int); omega), Nat.le_trans hr.len.1 (Nat.succ_le_succ h.nm), ?_⟩, rfl⟩
     have h3 := hr.len.2
     have h4 := h.tm
     have h5 : ({ s with next := s.next + 1 } : StS).h.m.length = s.h.m.length := rfl
     have h6 : ({ s with next := s.next + 1 } : StS).t.t.m.length = s.t.t.m.length := rfl
     show (({ s with next := s.next + 1 } : StS).does r.1 r.2 s.next).2.t.t.m.length ≤ _
     omega
end Go.Proofs.YtajbooppoohplaaGreatDoor
/- a record counts once, plain -/
namespace Go.Proofs.YtajbooppoohplaaGreatDoor
open Go.RowKit Esch

theorem oseen_mono {m : OM} {c q : Int} (h : oseen m c q = true) (c' q' : Int) (r : Int × Int) : oseen (onote m c' q' r).2 c q = true := by
 unfold onote
 split
 · exact h
 split
 · exact h
 · rename_i h1 h2
   unfold oseen lastO at *
   simp only [get_set]
   by_cases hc : c' = c
   · subst hc
     rw [if_pos rfl]
     simp only [Bool.or_eq_true, decide_eq_true_eq, Option.getD_some] at *
     rcases h with h | h
     · exact Or.inl h
     · refine Or.inr ?_
       have h3 : ¬ q' ≤ ((get m c').getD (0, 0, 0)).1 := fun h3 => h2 (Or.inr h3)
       omega
   · rw [if_neg hc]; exact h
theorem oseen_note {m : OM} {c q : Int} (r : Int × Int) : oseen (onote m c q r).2 c q = true := by
 unfold onote
 split
 · rename_i h
   unfold oseen
   rw [h]; rfl
 split
 · rename_i h; exact h
 · unfold oseen lastO
   simp [get_set]
theorem apply_mono {s : StS} {c q : Int} (h : oseen s.o c q = true) (addr kind : Int) (text : ByteArray) : oseen (s.apply addr kind text).2.o c q = true := by
 unfold StS.apply
 split
 · exact h
 split
 · exact h
 split
 · exact h
 rename_i r _
 split
 · exact h
 · show oseen (onote (({ s with next := s.next + 1 } : StS).does r.1 r.2 addr).2.o _ _ _).2 c q = true
   rw [(doesR { s with next := s.next + 1 } r.1 r.2 addr).o]
   exact oseen_mono h _ _ _
theorem apply_notes {s : StS} {addr : Int} {text : ByteArray} (ha : addr = s.next) (h2 : addr < 16384) {r : OpS × List Mv} (hr : decOp text = some r) : oseen (s.apply addr 1 text).2.o r.1.client r.1.seq = true := by
 unfold StS.apply
 rw [if_neg (by omega), if_neg (by decide), hr]
 simp only
 by_cases hs : oseen s.o r.1.client r.1.seq = true
 · rw [if_pos hs]; exact hs
 · rw [if_neg hs]
   exact oseen_note _
/-- what stood in the log ahead counts for nothing -/
def Gone (s : StS) (e : Int × ByteArray) : Prop := e.1 = 1 → ∀ r, decOp e.2 = some r → oseen s.o r.1.client r.1.seq = true
theorem Gone.mono {s : StS} {e : Int × ByteArray} (h : Gone s e) (addr kind : Int) (text : ByteArray) : Gone (s.apply addr kind text).2 e := fun h1 r hr => apply_mono (h h1 r hr) _ _ _
theorem gone_apply {s : StS} {e : Int × ByteArray} (h2 : s.next < 16384) : Gone (s.apply s.next e.1 e.2).2 e := fun h1 r hr => by
  rw [h1]; exact apply_notes rfl h2 hr
theorem apply_gone {s : StS} {e : Int × ByteArray} (hk : e.1 = 1 ∨ e.1 = 2) (h : Gone s e) (h2 : s.next < 16384) : s.apply s.next e.1 e.2 = (((0, 0), false, 0), { s with next := s.next + 1 }) := by
 unfold StS.apply
 rw [if_neg (by omega)]
 by_cases h1 : e.1 = 2
 · rw [if_pos h1]
 rw [if_neg h1]
 cases hd : decOp e.2 with
 | none => rfl
 | some r =>
   simp only
   rw [if_pos (h (by omega) r hd)]
theorem apply_junk2 {s : StS} (h2 : s.next < 16384) (t : ByteArray) : s.apply s.next 2 t = (((0, 0), false, 0), { s with next := s.next + 1 }) := by
 unfold StS.apply
 rw [if_neg (by omega), if_pos rfl]
end Go.Proofs.YtajbooppoohplaaGreatDoor
