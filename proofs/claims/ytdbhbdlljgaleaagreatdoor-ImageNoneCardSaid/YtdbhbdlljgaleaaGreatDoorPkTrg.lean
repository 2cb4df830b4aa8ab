import Derived.Test.YtdbhbdlljgaleaaGreatDoorPkTrf
import Derived.Test.YtdbhbdlljgaleaaGreatDoorPkTre
import Derived.Test.YtdbhbdlljgaleaaGreatDoorPkExt
import Derived.Test.YtdbhbdlljgaleaaGreatDoorPkBase
/- package tree: Link, Truncate -/
namespace Esch
open Go Go.RowKit
theorem cut_same (s : TabS) (i n : Int) (h : (s.cut i n).1 ≠ 0) : (s.cut i n).2 = s := by
  unfold TabS.cut at *
  split
  · rfl
  split
  · rfl
  split
  · rfl
  · rename_i h1 h2 h3
    simp [h1, h2, h3] at h
theorem TreeAt.wide {w : World} {b : Nat} {S T : Nat → Prop} {s : TrS} (h : TreeAt w b S s) (hS : ∀ k, S k → T k) (hl : ∀ k, T k → k < w.heap.size) : TreeAt w b T s := by
  obtain ⟨sb, lt, ib, nb, S1, S2, c0, c1, ht, hn, s1, s2, d, b1, b2⟩ := h
  exact ⟨hS b sb, hl, ib, nb, S1, S2, c0, c1, ht, hn, fun k hk => hS k (s1 k hk), fun k hk => hS k (s2 k hk), d, b1, b2⟩
theorem TreeAt.grow {w : World} {b : Nat} {S : Nat → Prop} {s : TrS} (h : TreeAt w b S s) (w0 : World) : TreeAt w b (growI S w0 w) s := h.wide (fun _ => Or.inl) (fun k hk => hk.elim (h.lt k) (fun h => h.2))
theorem TreeAt.grow2 {w w0 w2 : World} {b : Nat} {S : Nat → Prop} {s : TrS} (h : TreeAt w b (growI S w2 w) s) (hz : w0.heap.size ≤ w2.heap.size) : TreeAt w b (growI S w0 w) s := h.wide (fun _ hk => hk.imp id fun h => ⟨Nat.le_trans hz h.1, h.2⟩) (fun k hk => hk.elim (fun hs => h.lt k (Or.inl hs)) (fun h => h.2))
/-- the inodes alone were written, and more has come -/
theorem TreeAt.tabG {w w' : World} {b ib nb : Nat} {S S1 S2 : Nat → Prop} {s : TrS} {t' : TabS} (sb : S b) (lt : ∀ k, S k → k < w.heap.size) (c0 : w.cell? ⟨b, 0, none⟩ = some (.pointer (some ⟨ib, 0, none⟩))) (c1 : w.cell? ⟨b, 1, none⟩ = some (.pointer (some ⟨nb, 0, none⟩)))
    (hn : DirAt w nb S2 s.n) (s1 : ∀ k, S1 k → S k) (s2 : ∀ k, S2 k → S k) (d : ∀ k, S1 k → ¬ S2 k) (b1 : ¬ S1 b) (b2 : ¬ S2 b) (ht : TabAt w' ib (growI S1 w w') t') (hM : Mod S1 w w') : TreeAt w' b (growI S w w') ⟨t', s.n⟩ ∧ Mod S w w' :=
  ⟨⟨Or.inl sb, fun k hk => hk.elim (fun hk => Nat.lt_of_lt_of_le (lt k hk) hM.size) (fun h => h.2), ib, nb, growI S1 w w', S2, hM.at c0 b1, hM.at c1 b1, ht, hn.mod hM (fun k hk h => d k h hk), fun k hk => hk.imp (s1 k) id, fun k hk => Or.inl (s2 k hk), fun k hk h2 => hk.elim (fun h => d k h h2) (fun h => absurd (lt k (s2 k h2)) (Nat.not_lt.2 h.1)), fun hk => hk.elim b1 (fun h => absurd (lt b sb) (Nat.not_lt.2 h.1)), b2⟩, hM.mono fun k _ hk => s1 k hk⟩
def ChgRG (W1 : World) (b : Nat) (S : Nat → Prop) (r : Int × TrS) (x : Int) (W : World) : Prop := x = r.1 ∧ TreeAt W b (growI S W1 W) r.2 ∧ Mod S W1 W
end Esch
namespace Go.Proofs.YtdbhbdlljgaleaaGreatDoor
open Go.RowKit Esch Go.Shelf

def ErrPostG (w : World) (b : Nat) (S : Nat → Prop) (r : Int × TrS) (e : Ending) (w' : World) : Prop := e = .returned (.int .i64 r.1) ∧ TreeAt w' b (growI S w w') r.2 ∧ Mod S w w'
theorem ErrPost.toG {w w' : World} {b : Nat} {S : Nat → Prop} {r : Int × TrS} {e : Ending} (h : ErrPost w b S r e w') : ErrPostG w b S r e w' := ⟨h.1, h.2.1.grow w, h.2.2⟩
end Go.Proofs.YtdbhbdlljgaleaaGreatDoor
/- package tree: Rmdir, Unlink -/
namespace Go.Proofs.YtdbhbdlljgaleaaGreatDoor
open Go.RowKit Esch Go.Shelf

end Go.Proofs.YtdbhbdlljgaleaaGreatDoor
/- package tree: Find, Stat, List, Inodes, Names -/
namespace Esch
open Go Go.RowKit
def Res.code {α : Type} (r : Res α) : Int := match r with
  | .ok _ => 0
  | .err e => e
def Res.val {α : Type} (r : Res α) (d : α) : α := match r with
  | .ok a => a
  | .err _ => d
end Esch
namespace Go.Proofs.YtdbhbdlljgaleaaGreatDoor
open Go.RowKit Esch Go.Shelf

def FindR (W1 : World) (b bx : Nat) (S : Nat → Prop) (s : TrS) (r : Res Int) (x : Int) (W : World) : Prop :=
  x = r.code ∧ TreeAt W b S s ∧ W.cell? ⟨bx, 0, none⟩ = some (.int .i64 (r.val 0)) ∧ Mod (· = bx) W1 W
def FindPost (w : World) (r : Res Int) (e : Ending) (w' : World) : Prop := e = .returned (.tuple #[.int .i64 (r.val 0), .int .i64 r.code]) ∧ Below w.heap.size w w'
/-- what is told of an inode, in four cells -/
structure StAt (W : World) (bx : Nat) (x : InS) : Prop where
  c0 : W.cell? ⟨bx, 0, none⟩ = some (.int .i64 x.ino)
  c1 : W.cell? ⟨bx, 1, none⟩ = some (.int .i64 x.kind)
  c2 : W.cell? ⟨bx, 2, none⟩ = some (.int .i64 x.links)
  c3 : W.cell? ⟨bx, 3, none⟩ = some (.int .i64 x.size)
  f0 : W.frozen? ⟨bx, 0, none⟩ = false
  f1 : W.frozen? ⟨bx, 1, none⟩ = false
  f2 : W.frozen? ⟨bx, 2, none⟩ = false
  f3 : W.frozen? ⟨bx, 3, none⟩ = false
theorem StAt.mod {F : Nat → Prop} {W W' : World} {bx : Nat} {x : InS} (h : StAt W bx x) (hM : Mod F W W') (hb : ¬ F bx) : StAt W' bx x := by
  obtain ⟨c0, c1, c2, c3, f0, f1, f2, f3⟩ := h
  have hl := cell_lt c0
  exact ⟨hM.at c0 hb, hM.at c1 hb, hM.at c2 hb, hM.at c3 hb, (hM.frozen (p := ⟨bx, 0, none⟩) hl hb).trans f0, (hM.frozen (p := ⟨bx, 1, none⟩) hl hb).trans f1, (hM.frozen (p := ⟨bx, 2, none⟩) hl hb).trans f2, (hM.frozen (p := ⟨bx, 3, none⟩) hl hb).trans f3⟩
def statOf (s : TrS) (r : Res Int) : InS := match r with
  | .ok i => s.t.at i
  | .err _ => in0
def StatR (W1 : World) (b bx : Nat) (S : Nat → Prop) (s : TrS) (r : Res Int) (x : Int) (W : World) : Prop :=
  x = r.code ∧ TreeAt W b S s ∧ StAt W bx (statOf s r) ∧ Mod (· = bx) W1 W
def StatPost (w : World) (s : TrS) (r : Res Int) (e : Ending) (w' : World) : Prop := e = .returned (.tuple #[statV (statOf s r), .int .i64 r.code]) ∧ Below w.heap.size w w'
theorem trInodes_any (w : World) (b : Nat) (S : Nat → Prop) (s : TrS) (h : TreeAt w b S s) : Calls Tryz.prog 28 #[.pointer (some ⟨b, 0, none⟩)] w fun e w' => (∃ ib S1, e = .returned (.pointer (some ⟨ib, 0, none⟩)) ∧ TabAt w ib S1 s.t) ∧ w' = w := by
  obtain ⟨sb, lt, ib, nb, S1, S2, c0, c1, ht, hn, s1, s2, dd, b1, b2⟩ := h
  have HT := Lib.hid ht
  clear ht hn
  go_enter Tryz.func28, Tryz.ntmps28
  go_wp2_with fail
  go_ret
  exact ⟨⟨ib, S1, rfl, HT.out⟩, rfl⟩
theorem trNames_any (w : World) (b : Nat) (S : Nat → Prop) (s : TrS) (h : TreeAt w b S s) : Calls Tryz.prog 31 #[.pointer (some ⟨b, 0, none⟩)] w fun e w' => (∃ nb S2, e = .returned (.pointer (some ⟨nb, 0, none⟩)) ∧ DirAt w nb S2 s.n) ∧ w' = w := by
  obtain ⟨sb, lt, ib, nb, S1, S2, c0, c1, ht, hn, s1, s2, dd, b1, b2⟩ := h
  have HN := Lib.hid hn
  clear ht hn
  go_enter Tryz.func31, Tryz.ntmps31
  go_wp2_with fail
  go_ret
  exact ⟨⟨nb, S2, rfl, HN.out⟩, rfl⟩
end Go.Proofs.YtdbhbdlljgaleaaGreatDoor
/- package extent: joined -/
namespace Esch
open Go Go.RowKit
theorem rowPut {w : World} {S : Nat → Prop} {size len cap b off : Nat} {xs : List Value} (h : GRowAt w S size len cap (some ⟨b, off, none⟩) xs) {i : Nat} (hi : i < len * size) (v : Value) : GRowAt (w.setCell ⟨b, off + i, none⟩ v) S size len cap (some ⟨b, off, none⟩) (xs.set i v) := by
  refine ⟨h.le, h.max, by rw [List.length_set]; exact h.xsLen, fun h0 => ?_⟩
  obtain ⟨b', off', e, hb, hl, h1, h2⟩ := h.at' h0
  cases e
  have hle := h.le
  have hlc : len * size ≤ cap * size := Nat.mul_le_mul_right _ hle
  have hx := h.xsLen
  obtain ⟨y, hy⟩ := Option.isSome_iff_exists.1 (h2 i (by omega)).1
  refine ⟨b, off, rfl, hb, by simpa using hl, fun j hj => ?_, fun j hj => ⟨?_, ?_⟩⟩
  · by_cases e : j = i
    · subst e
      rw [List.getElem?_set_self (by omega)]
      go_simp
    · rw [List.getElem?_set_ne (fun e' => e e'.symm), ← h1 j hj]
      have hne : (⟨b, off + i, none⟩ : Addr) ≠ ⟨b, off + j, none⟩ := fun e' => e (by have := congrArg Addr.off e'; simp only at this; omega)
      apply World.cell?_setCell_other; exact hne
  · by_cases e : j = i
    · subst e
      go_simp
    · have hne : (⟨b, off + i, none⟩ : Addr) ≠ ⟨b, off + j, none⟩ := fun e' => e (by have := congrArg Addr.off e'; simp only at this; omega)
      have e2 : (w.setCell ⟨b, off + i, none⟩ v).cell? ⟨b, off + j, none⟩ = w.cell? ⟨b, off + j, none⟩ := by apply World.cell?_setCell_other; exact hne
      rw [e2]
      exact (h2 j hj).1
  · rw [World.frozen?_setCell]
    exact (h2 j hj).2
theorem joinP_snoc (l : List PtS) (x : PtS) : joinP (l ++ [x]) = joinStep (joinP l) x := by unfold joinP; rw [List.foldl_append]; rfl
theorem joinStep_snoc (init : List PtS) (y x : PtS) : joinStep (init ++ [y]) x = if joinsB y x = true then init ++ [{ y with len := y.len + x.len }] else init ++ [y] ++ [x] := by
  unfold joinStep
  rw [List.getLast?_append, List.getLast?_singleton]
  simp only [Option.some_or, List.dropLast_concat]
theorem PtS.In.join {y x : PtS} (hy : y.In) (hx : x.In) (h : joinsB y x = true) : PtS.In { y with len := y.len + x.len } := by
  unfold joinsB at h
  simp only [Bool.and_eq_true, decide_eq_true_eq] at h
  obtain ⟨⟨h1, -⟩, h3⟩ := h
  have := hy.o0; have := hy.l1; have := hy.a0; have := hx.l1; have := hx.ol; have := hx.al; have := hy.d0; have := hy.d1
  exact ⟨by simpa using hy.o0, by show 1 ≤ y.len + x.len; omega, by show y.len + x.len ≤ 1024; omega, by show y.off + (y.len + x.len) ≤ 8192; omega, by simpa using hy.a0, by show y.at' + (y.len + x.len) ≤ 1024; omega, by simpa using hy.d0, by simpa using hy.d1⟩
theorem snoc_of {α : Type} {l : List α} (h : l ≠ []) : ∃ i y, l = i ++ [y] := ⟨l.dropLast, l.getLast h, (List.dropLast_concat_getLast h).symm⟩
theorem joinStep_in {out : List PtS} {x : PtS} (ho : ∀ y ∈ out, y.In) (hx : x.In) : ∀ y ∈ joinStep out x, y.In := by
  by_cases h : out = []
  · subst h
    intro y hy
    have hy : y ∈ [x] := hy
    rw [List.mem_singleton] at hy
    subst hy; exact hx
  · obtain ⟨i, z, rfl⟩ := snoc_of h
    rw [joinStep_snoc]
    intro y hy
    split at hy
    · rename_i hj
      rcases List.mem_append.1 hy with hy | hy
      · exact ho y (List.mem_append_left _ hy)
      · rw [List.mem_singleton] at hy
        subst hy
        exact (ho z (by simp)).join hx hj
    · rcases List.mem_append.1 hy with hy | hy
      · exact ho y hy
      · rw [List.mem_singleton] at hy
        subst hy; exact hx
theorem flat_set (i : List PtS) (y : PtS) (v : Int) : ((i ++ [y]).flatMap ptC).set (i.length * 4 + 1) (.int .i64 v) = (i ++ [{ y with len := v }]).flatMap ptC := by
  rw [List.flatMap_append, List.flatMap_append, List.set_append_right _ _ (by rw [flat_len ptC_len]; omega), flat_len ptC_len, show i.length * 4 + 1 - i.length * 4 = 1 by omega]
  rfl
end Esch
namespace Go.Proofs.YtdbhbdlljgaleaaGreatDoor
open Go.RowKit Esch Go.Shelf

def JRel (w : World) (l : List PtS) (g : Nat) (v4 v10 : Value) (wr : World) : Prop :=
  ∃ (i : Nat) (ao : Option Addr) (cap : Nat), g = l.length - i ∧ i ≤ l.length ∧ v10 = .int .i64 i ∧ v4 = .slice ao (joinP (l.take i)).length cap ∧ GRowAt wr (From w.heap.size) 4 (joinP (l.take i)).length cap ao ((joinP (l.take i)).flatMap ptC) ∧ (∀ x ∈ joinP (l.take i), x.In) ∧ Below w.heap.size w wr
def XJoinPost (w : World) (r : List PtS × Int) (e : Ending) (w' : World) : Prop := ∃ a c, e = .returned (.tuple #[.slice a r.1.length c, .int .i64 r.2]) ∧ GRowAt w' (fun k => w.heap.size ≤ k ∧ k < w'.heap.size) 4 r.1.length c a (r.1.flatMap ptC) ∧ Below w.heap.size w w'
end Go.Proofs.YtdbhbdlljgaleaaGreatDoor
/- package extent: Put -/
namespace Esch
open Go Go.RowKit
theorem cutF_in {n : Int} {l : List PtS} (h : ∀ p ∈ l, p.In) : ∀ y ∈ cutF n l, y.In := fun y hy => by
  unfold cutF at hy
  obtain ⟨p, hp, rfl⟩ := List.mem_map.1 hy
  obtain ⟨hp, hn⟩ := List.mem_filter.1 hp
  have hn : p.off < n := by simpa using hn
  have hi := h p hp
  have := hi.o0; have := hi.l1; have := hi.l2; have := hi.ol; have := hi.a0; have := hi.al
  exact ⟨hi.o0, by show 1 ≤ min p.len (n - p.off); omega, by show min p.len (n - p.off) ≤ 1024; omega, by show p.off + min p.len (n - p.off) ≤ 8192; omega, hi.a0, by show p.at' + min p.len (n - p.off) ≤ 1024; omega, hi.d0, hi.d1⟩
/-- how much of a part lies under x -/
def underP (x p : PtS) : Int := max 0 (x.off + x.len - p.off)
def restP (x p : PtS) : PtS := ⟨p.off + underP x p, p.len - underP x p, p.addr, p.at' + underP x p⟩
theorem behindP_snoc (l : List PtS) (x p : PtS) : behindP (l ++ [p]) x = if underP x p < p.len then behindP l x ++ [restP x p] else behindP l x := by
  unfold behindP
  rw [List.filterMap_append]
  by_cases h : underP x p < p.len
  · rw [if_pos h]
    congr 1
    rw [List.filterMap_cons_some (b := restP x p)]
    · rfl
    · exact if_pos h
  · rw [if_neg h, List.filterMap_cons_none]
    · simp
    · exact if_neg h
theorem rest_in {x p : PtS} (hp : p.In) (h : underP x p < p.len) : (restP x p).In := by
  have := hp.o0; have := hp.l1; have := hp.l2; have := hp.ol; have := hp.a0; have := hp.al
  have h0 : 0 ≤ underP x p := by unfold underP; omega
  exact ⟨by show 0 ≤ p.off + underP x p; omega, by show 1 ≤ p.len - underP x p; omega, by show p.len - underP x p ≤ 1024; omega, by show p.off + underP x p + (p.len - underP x p) ≤ 8192; omega, by show 0 ≤ p.at' + underP x p; omega, by show p.at' + underP x p + (p.len - underP x p) ≤ 1024; omega, hp.d0, hp.d1⟩
theorem behind_in {x : PtS} {l : List PtS} (h : ∀ p ∈ l, p.In) : ∀ y ∈ behindP l x, y.In := fun y hy => by
  unfold behindP at hy
  obtain ⟨p, hp, he⟩ := List.mem_filterMap.1 hy
  by_cases hu : underP x p < p.len
  · have e : some (restP x p) = some y := (if_pos hu).symm.trans he
    cases e
    exact rest_in (h p hp) hu
  · have e : (none : Option PtS) = some y := (if_neg hu).symm.trans he
    cases e
theorem behind_len (x : PtS) (l : List PtS) : (behindP l x).length ≤ l.length := List.length_filterMap_le _ _
theorem rowNil {w : World} {S : Nat → Prop} {size len cap : Nat} {ao : Option Addr} {xs : List Value} (h : GRowAt w S size len cap ao xs) (e : ao = none) : cap = 0 := by
  rcases Nat.eq_zero_or_pos cap with h0 | h0
  · exact h0
  · obtain ⟨b, off, e2, -⟩ := h.at' h0
    rw [e] at e2; cases e2
end Esch
namespace Go.Proofs.YtdbhbdlljgaleaaGreatDoor
open Go.RowKit Esch Go.Shelf

def BehRel (w : World) (l : List PtS) (x : PtS) (g : Nat) (v7 v25 : Value) (wr : World) : Prop :=
  ∃ (i : Nat) (ao : Option Addr) (cap : Nat), g = l.length - i ∧ i ≤ l.length ∧ v25 = .int .i64 i ∧ v7 = .slice ao (behindP (l.take i) x).length cap ∧ GRowAt wr (From w.heap.size) 4 (behindP (l.take i) x).length cap ao ((behindP (l.take i) x).flatMap ptC) ∧ Below w.heap.size w wr
end Go.Proofs.YtdbhbdlljgaleaaGreatDoor
/- package inode: Write, Open -/
namespace Go.Proofs.YtdbhbdlljgaleaaGreatDoor
open Go.RowKit Esch Go.Shelf

end Go.Proofs.YtdbhbdlljgaleaaGreatDoor
