/- the state, plain: what each record comes to -/
import Derived.Test.YtajbooppoohplaaGreatDoorMac
import Derived.Test.YtajbooppoohplaaGreatDoorPkIno
import Derived.Test.YtajbooppoohplaaGreatDoorPkHdm
import Derived.Test.YtajbooppoohplaaGreatDoorOnceT
import Derived.Test.YtajbooppoohplaaGreatDoorOp11
namespace Esch
open Go
def hsort (m : List Hd) : List Hd := m.mergeSort fun a b => !hdLt b a
theorem hsort_ok {m : List Hd} (hn : (m.map (·.1)).Nodup) : HSorted m (hsort m) := by
 refine ⟨List.mergeSort_perm _ _, ?_⟩
 refine hsorted_strict ?_ ((((List.mergeSort_perm m fun a b => !hdLt b a).map (·.1)).nodup_iff).2 hn)
 have := List.pairwise_mergeSort (le := fun a b => !hdLt b a) (fun a b c h1 h2 => by
   have h1 : hdLt b a = false := by simpa using h1
   have h2 : hdLt c b = false := by simpa using h2
   show (!hdLt c a) = true
   rw [hdLt_swo.ntrans c b a h2 h1]; rfl) (fun a b => by
   show ((!hdLt b a) || (!hdLt a b)) = true
   cases h : hdLt b a
   · rfl
   · have := hkLt_asymm (a := b.1) (b := a.1) h
     show ((!true) || (!hkLt a.1 b.1)) = true
     rw [this]; rfl) m
 exact this.imp fun h => by simpa using h
end Esch
namespace Go.Proofs.YtajbooppoohplaaGreatDoor
open Go.RowKit Esch

structure StS where
  t : TrS
  h : HdS
  o : OM
  next : Int
def st0 : StS := ⟨tr0, hd0, [], 0⟩
/-- a result's code and handle, and the state behind it -/
abbrev RSt := (Int × Int) × StS
def StS.tr (s : StS) (r : Int × TrS) : RSt := ((r.1, 0), { s with t := r.2 })
def StS.tab (s : StS) (r : Int × TabS) : RSt := ((r.1, 0), { s with t := ⟨r.2, s.t.n⟩ })
def StS.opn (s : StS) (o : OpS) (addr : Int) : RSt := match s.t.resolve o.path with
  | .err e => ((e, 0), s)
  | .ok i => if (s.t.t.at i).kind = 1 then ((63, 0), s)
    else if (s.h.opn o.client addr i).1 ≠ 0 then (((s.h.opn o.client addr i).1, 0), s)
    else if (s.t.t.opn i 1).1 ≠ 0 then (((s.t.t.opn i 1).1, 0), { s with h := ((s.h.opn o.client addr i).2.close o.client addr).2 })
    else ((0, addr), { s with h := (s.h.opn o.client addr i).2, t := ⟨(s.t.t.opn i 1).2, s.t.n⟩ })
def StS.cls (s : StS) (o : OpS) : RSt := if (s.h.close o.client o.hd).1.2 ≠ 0 then (((s.h.close o.client o.hd).1.2, 0), s)
  else ({ s with h := (s.h.close o.client o.hd).2 } : StS).tab (s.t.t.opn (s.h.close o.client o.hd).1.1 (-1))
def StS.wrt (s : StS) (o : OpS) (addr : Int) : RSt := match s.h.of o.client o.hd with
  | none => ((68, 0), s)
  | some i => s.tab (s.t.t.write i o.off o.data.size addr)
def opensDown (t : TabS) (l : List Hd) : TabS := l.foldl (fun t e => (t.opn e.2 (-1)).2) t
def StS.exp (s : StS) (tick : Int) : RSt := ((0, 0), { s with h := { s.h with m := delp (s.h.old tick) s.h.m (hsort s.h.m) }, t := ⟨opensDown s.t.t ((hsort s.h.m).filter (s.h.old tick)), s.t.n⟩ })
/-- what a record comes to, by its kind -/
def StS.does (s : StS) (o : OpS) (mv : List Mv) (addr : Int) : RSt :=
  if o.kind = 1 then s.tr ((s.t.mk' o.path 1).run s.t)
  else if o.kind = 2 then s.tr ((s.t.rmdir o.path).run s.t)
  else if o.kind = 3 then s.tr ((s.t.mk' o.path 2).run s.t)
  else if o.kind = 4 then s.tr ((s.t.lnk o.path o.dest).run s.t)
  else if o.kind = 5 then s.tr ((s.t.unlink o.path).run s.t)
  else if o.kind = 6 then s.tr ((s.t.rename o.path o.dest).run s.t)
  else if o.kind = 7 then s.tr ((s.t.trunc o.path o.size).run s.t)
  else if o.kind = 8 then s.opn o addr
  else if o.kind = 9 then s.cls o
  else if o.kind = 10 then s.wrt o addr
  else if o.kind = 11 then (((s.h.renew o.client o.tick).1, 0), { s with h := (s.h.renew o.client o.tick).2 })
  else if o.kind = 12 then s.exp o.tick
  else if o.kind = 13 then s.tab (s.t.t.move o.ino mv addr)
  else ((0, 0), s)
/-- an answer of Apply: the result, whether it was done, the error -/
abbrev ASt := ((Int × Int) × Bool × Int) × StS
def StS.apply (s : StS) (addr kind : Int) (text : ByteArray) : ASt :=
  if addr ≠ s.next ∨ 16384 ≤ addr ∨ (kind ≠ 1 ∧ kind ≠ 2) then (((0, 0), false, 1), s)
  else if kind = 2 then (((0, 0), false, 0), { s with next := s.next + 1 })
  else match decOp text with
    | none => (((0, 0), false, 0), { s with next := s.next + 1 })
    | some r => if oseen s.o r.1.client r.1.seq = true then (((0, 0), false, 0), { s with next := s.next + 1 })
      else let d := ({ s with next := s.next + 1 } : StS).does r.1 r.2 addr
        ((d.1, true, 0), { d.2 with o := (onote d.2.o r.1.client r.1.seq d.1).2 })
structure StS.ok (s : StS) : Prop where
  t : s.t.ok
  hk : ∀ e ∈ s.h.m, clientB e.1.1 = true
  hl : (s.h.m.length : Int) ≤ s.next
  n0 : 0 ≤ s.next
  n1 : s.next ≤ 16384
/-- what a record may change -/
structure StS.OkB (s s' : StS) : Prop where
  t : s'.t.ok
  hk : ∀ e ∈ s'.h.m, clientB e.1.1 = true
  hl : s'.h.m.length ≤ s.h.m.length + 1
  nx : s'.next = s.next
theorem set_len {K V : Type} [DecidableEq K] (m : List (K × V)) (k : K) (v : V) : (set m k v).length ≤ m.length + 1 := by
 by_cases h : ∀ p ∈ m, p.1 ≠ k
 · rw [set_miss m k v h]; simp
 · cases hg : get m k with
   | none => exact absurd (get_none.1 hg) h
   | some u =>
     obtain ⟨pre, post, rfl, hp⟩ := get_some hg
     rw [set_hit _ _ _ _ _ hp]; simp
theorem del_len {K V : Type} [DecidableEq K] (m : List (K × V)) (k : K) : (del m k).length ≤ m.length := List.length_filter_le _ _
theorem delp_sub (p : Hd → Bool) : ∀ (l m : List Hd), (∀ e ∈ delp p m l, e ∈ m) ∧ (delp p m l).length ≤ m.length
  | [], m => ⟨fun _ h => h, Nat.le_refl _⟩
  | a :: l, m => by
    have h := delp_sub p l (if p a = true then del m a.1 else m)
    show (∀ e ∈ delp p (if p a = true then del m a.1 else m) l, e ∈ m) ∧ (delp p (if p a = true then del m a.1 else m) l).length ≤ m.length
    split at h <;> rename_i hc
    · rw [if_pos hc]
      exact ⟨fun e he => del_mem (h.1 e he), Nat.le_trans h.2 (del_len _ _)⟩
    · rw [if_neg hc]; exact h
theorem opensDown_ok : ∀ (l : List Hd) {t : TabS}, t.ok → (opensDown t l).ok
  | [], _, h => h
  | e :: l, _, h => opensDown_ok l (h.opn e.2 (-1))
theorem StS.OkB.refl {s : StS} (h : s.ok) : s.OkB s := ⟨h.t, h.hk, Nat.le_succ _, rfl⟩
theorem StS.ok.tr {s : StS} (h : s.ok) (r : Int × TrS) (hr : r.2.ok) : s.OkB (s.tr r).2 := ⟨hr, h.hk, Nat.le_succ _, rfl⟩
theorem StS.ok.tab {s : StS} (h : s.ok) (r : Int × TabS) (hr : r.2.ok) : s.OkB (s.tab r).2 := ⟨⟨hr, h.t.n⟩, h.hk, Nat.le_succ _, rfl⟩
theorem close_sub (s : HdS) (c n : Int) : (∀ e ∈ (s.close c n).2.m, e ∈ s.m) ∧ (s.close c n).2.m.length ≤ s.m.length := by
 unfold HdS.close
 split
 · exact ⟨fun _ h => h, Nat.le_refl _⟩
 · exact ⟨fun e he => del_mem he, del_len _ _⟩
theorem opn_sub (s : HdS) (c n i : Int) (hs : ∀ e ∈ s.m, clientB e.1.1 = true) : (∀ e ∈ (s.opn c n i).2.m, clientB e.1.1 = true) ∧ (s.opn c n i).2.m.length ≤ s.m.length + 1 := by
 unfold HdS.opn
 split
 · exact ⟨hs, Nat.le_succ _⟩
 split
 · exact ⟨hs, Nat.le_succ _⟩
 split
 · exact ⟨hs, Nat.le_succ _⟩
 · rename_i h1 _ _
   refine ⟨fun e he => ?_, set_len _ _ _⟩
   rcases set_mem he with rfl | he
   · cases hc : clientB c
     · exact absurd (Or.inl hc) h1
     · rfl
   · exact hs e he
theorem ite_p {α : Type} {P : α → Prop} {c : Prop} [Decidable c] {a b : α} (ha : P a) (hb : P b) : P (if c then a else b) := by
 by_cases h : c
 · rw [if_pos h]; exact ha
 · rw [if_neg h]; exact hb
theorem StS.ok.opn {s : StS} (h : s.ok) (o : OpS) (addr : Int) : s.OkB (s.opn o addr).2 := by
 unfold StS.opn
 split
 · exact StS.OkB.refl h
 split
 · exact StS.OkB.refl h
 split
 · exact StS.OkB.refl h
 have ho := fun i => opn_sub s.h o.client addr i h.hk
 split
 · rename_i i _ _ _ _
   have hc := close_sub (s.h.opn o.client addr i).2 o.client addr
   exact ⟨h.t, fun e he => (ho i).1 e (hc.1 e he), Nat.le_trans hc.2 (ho i).2, rfl⟩
 · exact ⟨⟨h.t.t.opn _ _, h.t.n⟩, (ho _).1, (ho _).2, rfl⟩
theorem StS.ok.cls {s : StS} (h : s.ok) (o : OpS) : s.OkB (s.cls o).2 := by
 unfold StS.cls
 split
 · exact StS.OkB.refl h
 · have hc := close_sub s.h o.client o.hd
   exact ⟨⟨h.t.t.opn _ _, h.t.n⟩, fun e he => h.hk e (hc.1 e he), Nat.le_trans hc.2 (Nat.le_succ _), rfl⟩
theorem StS.ok.wrt {s : StS} (h : s.ok) (o : OpS) (addr : Int) : s.OkB (s.wrt o addr).2 := by
 unfold StS.wrt
 split
 · exact StS.OkB.refl h
 · exact h.tab _ (h.t.t.write _ _ _ _)
theorem StS.ok.exp {s : StS} (h : s.ok) (t : Int) : s.OkB (s.exp t).2 := by
 have hd := delp_sub (s.h.old t) (hsort s.h.m) s.h.m
 exact ⟨⟨opensDown_ok _ h.t.t, h.t.n⟩, fun e he => h.hk e (hd.1 e he), Nat.le_trans hd.2 (Nat.le_succ _), rfl⟩
theorem renew_m (s : HdS) (c t : Int) : (s.renew c t).2.m = s.m := by
 unfold HdS.renew
 split <;> rfl
theorem StS.ok.does {s : StS} (h : s.ok) (o : OpS) (mv : List Mv) (addr : Int) : s.OkB (s.does o mv addr).2 := by
 unfold StS.does
 refine ite_p (P := fun r : RSt => s.OkB r.2) (h.tr _ (h.t.mk' _ _)) (ite_p (P := fun r : RSt => s.OkB r.2) (h.tr _ (h.t.rmdir _)) (ite_p (P := fun r : RSt => s.OkB r.2) (h.tr _ (h.t.mk' _ _)) (ite_p (P := fun r : RSt => s.OkB r.2) (h.tr _ (h.t.lnk _ _)) (ite_p (P := fun r : RSt => s.OkB r.2) (h.tr _ (h.t.unlink _)) (ite_p (P := fun r : RSt => s.OkB r.2) (h.tr _ (h.t.rename _ _)) (ite_p (P := fun r : RSt => s.OkB r.2) (h.tr _ (h.t.trunc _ _)) (ite_p (P := fun r : RSt => s.OkB r.2) (h.opn _ _) (ite_p (P := fun r : RSt => s.OkB r.2) (h.cls _) (ite_p (P := fun r : RSt => s.OkB r.2) (h.wrt _ _) (ite_p (P := fun r : RSt => s.OkB r.2) ?_ (ite_p (P := fun r : RSt => s.OkB r.2) (h.exp _) (ite_p (P := fun r : RSt => s.OkB r.2) (h.tab _ (h.t.t.move _ _ _)) (StS.OkB.refl h)))))))))))))
 refine ⟨h.t, ?_, ?_, rfl⟩
 · show ∀ e ∈ (s.h.renew _ _).2.m, _
   rw [renew_m]; exact h.hk
 · show (s.h.renew _ _).2.m.length ≤ _
   rw [renew_m]; exact Nat.le_succ _
theorem StS.ok.apply {s : StS} (h : s.ok) (addr kind : Int) (text : ByteArray) : (s.apply addr kind text).2.ok := by
 have hn : (¬ (addr ≠ s.next ∨ 16384 ≤ addr ∨ (kind ≠ 1 ∧ kind ≠ 2))) → ({ s with next := s.next + 1 } : StS).ok := fun hc => ⟨h.t, h.hk, by have := h.hl; show (s.h.m.length : Int) ≤ s.next + 1; omega, by have := h.n0; show 0 ≤ s.next + 1; omega, by show s.next + 1 ≤ 16384; omega⟩
 unfold StS.apply
 split
 · exact h
 rename_i hc
 have hn := hn hc
 split
 · exact hn
 split
 · exact hn
 rename_i r _
 split
 · exact hn
 · have hd := hn.does r.1 r.2 addr
   have h1 := hd.hl
   have h2 := h.hl
   have h3 : ({ s with next := s.next + 1 } : StS).h.m.length = s.h.m.length := rfl
   refine ⟨hd.t, hd.hk, ?_, ?_, ?_⟩
   · show ((({ s with next := s.next + 1 } : StS).does r.1 r.2 addr).2.h.m.length : Int) ≤ (({ s with next := s.next + 1 } : StS).does r.1 r.2 addr).2.next
     rw [hd.nx]
     show _ ≤ s.next + 1
     omega
   · show 0 ≤ (({ s with next := s.next + 1 } : StS).does r.1 r.2 addr).2.next
     rw [hd.nx]; exact hn.n0
   · show (({ s with next := s.next + 1 } : StS).does r.1 r.2 addr).2.next ≤ 16384
     rw [hd.nx]; exact hn.n1
theorem st0_ok : st0.ok := ⟨tr0_ok, (fun e he => by cases he), by decide, by decide, by decide⟩
end Go.Proofs.YtajbooppoohplaaGreatDoor
