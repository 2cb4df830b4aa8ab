import Derived.Test.YtmnkackkeppheaaGreatStDump
import Derived.Test.YtmnkackkeppheaaGreatPkSm
import Derived.Test.YtmnkackkeppheaaGreatPkDec
import Derived.Test.YtmnkackkeppheaaGreatReachM
import Derived.Test.YtmnkackkeppheaaGreatGoodM
import Derived.Test.YtmnkackkeppheaaGreatInoLd3
import Derived.Test.YtmnkackkeppheaaGreatStFill
import Derived.Test.YtmnkackkeppheaaGreatCheck1
/- two dumps of one state are the same -/
set_option linter.unusedVariables false
set_option linter.unusedSimpArgs false
namespace Esch
open Go Go.RowKit
theorem rw3_of {α : Type} {f : α → List Value} (hf : ∀ x, (f x).length = 3) (d : α) {w : World} {S : Nat → Prop} {a : Option Addr} {l : List α}
    (h : 0 < l.length → ∃ b off, a = some ⟨b, off, none⟩ ∧ S b ∧ b < w.heap.size ∧ ∀ i, i < l.length → ∀ j, j < 3 → w.cell? ⟨b, off + i * 3 + j, none⟩ = (f (l.getD i d))[j]?) : RwAt w S 3 l.length a (l.flatMap f) := by
  refine ⟨flat_len hf l, fun h0 => ?_⟩
  obtain ⟨b, off, e, hs, hb, hc⟩ := h h0
  refine ⟨b, off, e, hs, hb, fun j hj => ?_⟩
  have hq : j / 3 < l.length := by omega
  have hr : j % 3 < 3 := Nat.mod_lt _ (by decide)
  have e2 : j = (j / 3) * 3 + j % 3 := by omega
  have h3 := hc (j / 3) hq (j % 3) hr
  rw [e2, flat_at hf d l _ _ hq hr, ← Nat.add_assoc]
  exact h3
theorem three_cells {w : World} {b o : Nat} {l : List Value} {v0 v1 v2 : Value} (hl : l = [v0, v1, v2]) (h0 : w.cell? ⟨b, o, none⟩ = some v0) (h1 : w.cell? ⟨b, o + 1, none⟩ = some v1) (h2 : w.cell? ⟨b, o + 2, none⟩ = some v2) : ∀ j, j < 3 → w.cell? ⟨b, o + j, none⟩ = l[j]? := fun j hj => by
  subst hl
  match j, hj with
  | 0, _ => exact h0
  | 1, _ => exact h1
  | 2, _ => exact h2
def enK (e : Ent) : EqK := (e.1.1, e.1.2, e.2)
theorem ents_rw {w : World} {S : Nat → Prop} {a : Option Addr} {l : List Ent} (h : EntsAt S w a l) : RwAt w S 3 (l.map enK).length a ((l.map enK).flatMap enC) := by
  refine rw3_of enC_len (enK default) fun h0 => ?_
  rw [List.length_map] at h0
  obtain ⟨b, off, e, hs, hb, hc⟩ := h h0
  refine ⟨b, off, e, hs, hb, fun i hi => ?_⟩
  rw [List.length_map] at hi
  obtain ⟨c0, c1, c2⟩ := hc i hi
  have e3 : (l.map enK).getD i (enK default) = enK (l.getD i default) := by
    rw [List.getD_eq_getElem?_getD, List.getD_eq_getElem?_getD, List.getElem?_map, List.getElem?_eq_getElem hi]
    rfl
  rw [e3]
  exact three_cells rfl c0 c1 c2
theorem hds_rw {w : World} {S : Nat → Prop} {a : Option Addr} {l : List Hd} (h : HdsAt S w a l) : RwAt w S 3 l.length a (l.flatMap hdC) := by
  refine rw3_of hdC_len default fun h0 => ?_
  obtain ⟨b, off, e, hs, hb, hc⟩ := h h0
  refine ⟨b, off, e, hs, hb, fun i hi => ?_⟩
  obtain ⟨c0, c1, c2⟩ := hc i hi
  exact three_cells rfl c0 c1 c2
end Esch
namespace Go.Proofs.YtmnkackkeppheaaGreat
open Go.RowKit Esch

theorem dump_len (s : TabS) : s.dump.length = s.m.length := by unfold TabS.dump sortI; simp
def dmC (s : StS) (ia : Option Addr) (ic : Nat) (ik : List InC) (na : Option Addr) (nc : Nat) (nl : List EqK) (ha : Option Addr) (hc : Nat) (hl : List Hd) : DmC :=
  ⟨s.next, ia, ic, ik, s.t.t.next, na, nc, nl, ha, hc, hl, fun i : Nat => s.h.lease i, fun i : Nat => (olast s.o i).1, fun j : Nat => if j % 2 = 0 then (olast s.o (j / 2 : Nat)).2.1 else (olast s.o (j / 2 : Nat)).2.2⟩
theorem dmC_cells (s : StS) (ia : Option Addr) (ic : Nat) (ik : List InC) (na : Option Addr) (nc : Nat) (nl : List EqK) (ha : Option Addr) (hc : Nat) (hl : List Hd) : dmCells s (.slice ia ik.length ic) (.slice na nl.length nc) (.slice ha hl.length hc) = (dmC s ia ic ik na nc nl ha hc hl).cells := by kernel_rfl
/-- a dump, and what it is of -/
structure DumpOf (w0 w : World) (s : StS) (e : Ending) (x : DmC) : Prop where
  e : e = .returned (.agg x.cells.toArray)
  ok : DmOk w (fun _ => True) x
  n : x.n = s.next
  m : x.m = s.t.t.next
  iv : x.ik.map InC.val = s.t.t.dump
  nv : ∃ nl, SortedOf s.t.n.m (fun _ => true) nl ∧ x.nl = nl.map enK
  hv : HSorted s.h.m x.hl
  fl : x.l = fun i : Nat => s.h.lease i
  fs : x.s = fun i : Nat => (olast s.o i).1
  fr : x.r = fun j : Nat => if j % 2 = 0 then (olast s.o (j / 2 : Nat)).2.1 else (olast s.o (j / 2 : Nat)).2.2
  bl : Below w0.heap.size w0 w
theorem dump_of {w w' : World} {s : StS} {e : Ending} (h : Dump25Post w s e w') (h1 : s.t.t.m.length ≤ 100000) (h2 : s.t.n.m.length ≤ 100000) (h3 : s.h.m.length ≤ 100000) : ∃ x, DumpOf w w' s e x := by
  obtain ⟨ia, ic, ik, na, nc, nl, ha, hc, hl, rfl, hi, hiv, hns, hn, hhs, hh, hB⟩ := h
  have e1 := dmC_cells s ia ic ik na nc (nl.map enK) ha hc hl
  rw [List.length_map] at e1
  refine ⟨dmC s ia ic ik na nc (nl.map enK) ha hc hl, by rw [← e1], ⟨hi.sub (fun _ _ _ => trivial), (ents_rw hn).sub (fun _ _ _ => trivial), (hds_rw hh).sub (fun _ _ _ => trivial), ?_, ?_, ?_⟩, rfl, rfl, hiv, ⟨nl, hns, rfl⟩, hhs, rfl, rfl, rfl, hB⟩
  · have := congrArg List.length hiv
    rw [List.length_map, dump_len] at this
    show ik.length ≤ 100000
    omega
  · show (nl.map enK).length ≤ 100000
    rw [List.length_map, hns.1.length_eq]
    exact Nat.le_trans (List.length_filter_le _ _) h2
  · show hl.length ≤ 100000
    rw [hhs.1.length_eq]
    exact h3
end Go.Proofs.YtmnkackkeppheaaGreat
/- package state, plain: what fill comes to on the dump of values v; Load of any dump -/
namespace Go.Proofs.YtmnkackkeppheaaGreat
open Go Go.RowKit Esch
def addF (s : DirS) (e : EqK) : Option DirS := if (s.add e.1 e.2.1 e.2.2).1 = 0 then some (s.add e.1 e.2.1 e.2.2).2 else none
/-- a handle opened, and counted -/
def opnF (t : TabS) (q : HdS × List (Int × Int)) (h : Hd) : Option (HdS × List (Int × Int)) :=
  if t.has h.2 = true ∧ (t.at h.2).kind = 2 ∧ (q.1.opn h.1.1 h.1.2 h.2).1 = 0 then some ((q.1.opn h.1.1 h.1.2 h.2).2, set q.2 h.2 (val0 q.2 h.2 + 1)) else none
/-- a client's lease and last record -/
def rowF (v : DVal) (q : HdS × OM) (k : Nat) : Option (HdS × OM) :=
  if (q.1.renew k (v.rows.getD k default).1.1).1 = 0 ∧ 0 ≤ (v.rows.getD k default).1.2 ∧ ¬ ((v.rows.getD k default).1.2 = 0 ∧ (v.rows.getD k default).2 ≠ (0, 0)) then some ((q.1.renew k (v.rows.getD k default).1.1).2, if 0 < (v.rows.getD k default).1.2 then (onote q.2 k (v.rows.getD k default).1.2 (v.rows.getD k default).2).2 else q.2) else none
def cmpF (t : TabS) (o : List (Int × Int)) : Bool := (sortI (t.m.map (·.1))).all fun i => decide ((t.at i).opens = val0 o i)
/-- what stands when all is added, ahead of the checks -/
def fillS (v : DVal) : Option StS :=
  if v.n < 0 ∨ 16384 < v.n ∨ loadP v.ik v.m ≠ 0 then none else
  (v.nl.foldlM addF tr0.n).bind fun n => (v.hl.foldlM (opnF (tabOf v.ik v.m)) (hd0, [])).bind fun q =>
    if cmpF (tabOf v.ik v.m) q.2 = false then none else
    ((List.range 8).foldlM (rowF v) (q.1, [])).bind fun p => some ⟨⟨tabOf v.ik v.m, n⟩, p.1, p.2, v.n⟩
theorem foldM_step {α β : Type} {f : β → α → Option β} {l : List α} {i : Nat} (d : α) (hi : i < l.length) {s x : β} (h : (l.take i).foldlM f s = some x) : (l.take (i + 1)).foldlM f s = f x (l.getD i d) := by
  rw [take_one l d hi, List.foldlM_append, h]
  show (f x (l.getD i d)).bind (fun y => some y) = _
  cases f x (l.getD i d) <;> rfl
theorem foldM_bad {α β : Type} {f : β → α → Option β} {l : List α} {i : Nat} (d : α) (hi : i < l.length) {s x : β} (h : (l.take i).foldlM f s = some x) (hn : f x (l.getD i d) = none) : l.foldlM f s = none := by
  have h1 := foldM_step d hi h
  rw [hn] at h1
  rw [← List.take_append_drop (i + 1) l, List.foldlM_append, h1]
  rfl
theorem range_step {β : Type} {f : β → Nat → Option β} {i : Nat} {s x : β} (h : (List.range i).foldlM f s = some x) : (List.range (i + 1)).foldlM f s = f x i := by
  rw [List.range_succ, List.foldlM_append, h]
  show (f x i).bind (fun y => some y) = _
  cases f x i <;> rfl
theorem range_bad {β : Type} {f : β → Nat → Option β} {i : Nat} {s x : β} (h : (List.range i).foldlM f s = some x) (hn : f x i = none) : ∀ n, i < n → (List.range n).foldlM f s = none
  | 0, h0 => absurd h0 (Nat.not_lt_zero _)
  | n + 1, h0 => by
    by_cases he : i = n
    · subst he; rw [range_step h]; exact hn
    · rw [List.range_succ, List.foldlM_append, range_bad h hn n (by omega)]; rfl
/-- what holds all the way through -/
theorem foldM_inv {α β : Type} {f : β → α → Option β} {P : β → Prop} (hf : ∀ b a c, P b → f b a = some c → P c) : ∀ (l : List α) (b c : β), P b → l.foldlM f b = some c → P c
  | [], b, c, hb, h => by cases h; exact hb
  | a :: l, b, c, hb, h => by
    rw [List.foldlM_cons] at h
    cases he : f b a with
    | none => rw [he] at h; cases h
    | some d => rw [he] at h; exact foldM_inv hf l d c (hf b a d hb he) h
/-- what each step asked for -/
theorem foldM_all {α β : Type} {f : β → α → Option β} {Q : α → Prop} (hf : ∀ b a c, f b a = some c → Q a) : ∀ (l : List α) (b c : β), l.foldlM f b = some c → ∀ a ∈ l, Q a
  | [], _, _, _, a, ha => by cases ha
  | x :: l, b, c, h, a, ha => by
    rw [List.foldlM_cons] at h
    cases he : f b x with
    | none => rw [he] at h; cases h
    | some d =>
      rw [he] at h
      rcases List.mem_cons.1 ha with rfl | ha
      · exact hf b a d he
      · exact foldM_all hf l d c h a ha
theorem foldM_len {α β : Type} {f : β → α → Option β} {m : β → Nat} (hf : ∀ b a c, f b a = some c → m c ≤ m b + 1) : ∀ (l : List α) (b c : β), l.foldlM f b = some c → m c ≤ m b + l.length
  | [], b, c, h => by cases h; simp
  | a :: l, b, c, h => by
    rw [List.foldlM_cons] at h
    cases he : f b a with
    | none => rw [he] at h; cases h
    | some d =>
      rw [he] at h
      have h1 := hf b a d he
      have h2 := foldM_len hf l d c h
      rw [List.length_cons]; omega
theorem addF_ok {s s' : DirS} {e : EqK} (h : addF s e = some s') : nameL e.2.1 = true ∧ (1 ≤ e.1 ∧ e.1 ≤ 2147483647) ∧ (1 ≤ e.2.2 ∧ e.2.2 ≤ 2147483647) ∧ s'.m.length ≤ s.m.length + 1 ∧ (s.ok → s'.ok) := by
  unfold addF at h
  split at h
  · rename_i h0
    cases h
    have hok := fun h : s.ok => h.add e.1 e.2.1 e.2.2
    unfold DirS.add at h0 hok ⊢
    split at h0
    · cases h0
    · rename_i c1
      rw [if_neg c1] at hok ⊢
      split at h0
      · cases h0
      · rename_i c2
        rw [if_neg c2] at hok ⊢
        split at h0
        · cases h0
        · rename_i c3
          rw [if_neg c3] at hok ⊢
          split at h0
          · cases h0
          · rename_i c4
            rw [if_neg c4] at hok ⊢
            refine ⟨by cases hh : nameL e.2.1; exact absurd hh c1; rfl, by omega, by omega, set_len _ _ _, hok⟩
  · cases h
theorem opnF_ok {t : TabS} {q q' : HdS × List (Int × Int)} {h : Hd} (hh : opnF t q h = some q') : clientB h.1.1 = true ∧ (0 ≤ h.1.2 ∧ h.1.2 < 16384) ∧ (1 ≤ h.2 ∧ h.2 ≤ 2147483647) ∧ q'.1.m.length ≤ q.1.m.length + 1 := by
  unfold opnF at hh
  split at hh
  · rename_i h0
    obtain ⟨-, -, h0⟩ := h0
    cases hh
    unfold HdS.opn at h0 ⊢
    split at h0
    · cases h0
    · rename_i c1
      rw [if_neg c1]
      split at h0
      · cases h0
      · rename_i c2
        rw [if_neg c2]
        split at h0
        · cases h0
        · rename_i c3
          rw [if_neg c3]
          refine ⟨by cases hc : clientB h.1.1; exact absurd (Or.inl hc) c1; rfl, by omega, by omega, set_len _ _ _⟩
  · cases hh
theorem rowF_ok {v : DVal} {q q' : HdS × OM} {k : Nat} (h : rowF v q k = some q') : (0 ≤ (v.rows.getD k default).1.1 ∧ (v.rows.getD k default).1.1 ≤ 1099511627776) ∧ 0 ≤ (v.rows.getD k default).1.2 ∧ q'.1.m = q.1.m := by
  unfold rowF at h
  split at h
  · rename_i h0
    obtain ⟨h0, h1, -⟩ := h0
    cases h
    unfold HdS.renew at h0 ⊢
    split at h0
    · cases h0
    · rename_i c1
      rw [if_neg c1]
      exact ⟨by omega, h1, rfl⟩
  · cases h
theorem names_ok {l : List EqK} {n : DirS} (h : l.foldlM addF tr0.n = some n) : n.ok ∧ n.m.length ≤ l.length := by
  refine ⟨foldM_inv (P := DirS.ok) (fun b a c hb he => (addF_ok he).2.2.2.2 hb) l _ _ tr0_ok.n h, ?_⟩
  have := foldM_len (m := fun s : DirS => s.m.length) (fun b a c he => (addF_ok he).2.2.2.1) l _ _ h
  exact Nat.le_trans this (by simp [tr0])
theorem hdls_len {t : TabS} {l : List Hd} {q : HdS × List (Int × Int)} (h : l.foldlM (opnF t) (hd0, []) = some q) : q.1.m.length ≤ l.length := by
  have := foldM_len (m := fun s : HdS × List (Int × Int) => s.1.m.length) (fun b a c he => (opnF_ok he).2.2.2) l _ _ h
  exact Nat.le_trans this (by simp [hd0])
theorem rows_m {v : DVal} {p q : HdS × OM} {l : List Nat} (h : l.foldlM (rowF v) q = some p) : p.1.m = q.1.m :=
  foldM_inv (P := fun s : HdS × OM => s.1.m = q.1.m) (fun b a c hb he => ((rowF_ok he).2.2).trans hb) l _ _ rfl h
/-- a state's dump has these values -/
structure SameV (v : DVal) (s : StS) : Prop where
  n : v.n = s.next
  ik : v.ik = s.t.t.dump
  m : v.m = s.t.t.next
  nv : ∃ nl, SortedOf s.t.n.m (fun _ => true) nl ∧ v.nl = nl.map enK
  hv : HSorted s.h.m v.hl
  rw : ∀ k : Nat, k < 8 → v.rows.getD k default = ((s.h.lease k, (olast s.o k).1), ((olast s.o k).2.1, (olast s.o k).2.2))
structure LoadOk (v : DVal) (s : StS) : Prop where
  f : fillS v = some s
  ck : CkP s.t
  sm : SameV v s
theorem LoadOk.no {v : DVal} (h : fillS v = none) : ¬ ∃ s, LoadOk v s := fun ⟨s, hs⟩ => by have := hs.f; rw [h] at this; cases this
theorem fill_lo {v : DVal} (h : v.n < 0 ∨ 16384 < v.n ∨ loadP v.ik v.m ≠ 0) : fillS v = none := by unfold fillS; rw [if_pos h]
structure FillA (v : DVal) (n : DirS) : Prop where
  a : ¬ (v.n < 0 ∨ 16384 < v.n ∨ loadP v.ik v.m ≠ 0)
  n : v.nl.foldlM addF tr0.n = some n
theorem fill_nm {v : DVal} (h : v.nl.foldlM addF tr0.n = none) : fillS v = none := by
  unfold fillS
  split
  · rfl
  · rw [h]; rfl
theorem FillA.is {v : DVal} {n : DirS} (h : FillA v n) : fillS v = (v.hl.foldlM (opnF (tabOf v.ik v.m)) (hd0, [])).bind fun q => if cmpF (tabOf v.ik v.m) q.2 = false then none else ((List.range 8).foldlM (rowF v) (q.1, [])).bind fun p => some ⟨⟨tabOf v.ik v.m, n⟩, p.1, p.2, v.n⟩ := by
  unfold fillS
  rw [if_neg h.a, h.n]; rfl
theorem FillA.hl {v : DVal} {n : DirS} (h : FillA v n) (hn : v.hl.foldlM (opnF (tabOf v.ik v.m)) (hd0, []) = none) : fillS v = none := by rw [h.is, hn]; rfl
structure FillB (v : DVal) (n : DirS) (q : HdS × List (Int × Int)) : Prop extends FillA v n where
  q : v.hl.foldlM (opnF (tabOf v.ik v.m)) (hd0, []) = some q
theorem FillB.cmp {v : DVal} {n : DirS} {q : HdS × List (Int × Int)} (h : FillB v n q) (hn : cmpF (tabOf v.ik v.m) q.2 = false) : fillS v = none := by
  rw [h.toFillA.is, h.q]
  show (if cmpF (tabOf v.ik v.m) q.2 = false then none else _) = none
  rw [if_pos hn]
theorem FillB.rows {v : DVal} {n : DirS} {q : HdS × List (Int × Int)} (h : FillB v n q) (hc : cmpF (tabOf v.ik v.m) q.2 = true) {r : Option (HdS × OM)} (hr : (List.range 8).foldlM (rowF v) (q.1, []) = r) : fillS v = r.bind fun p => some ⟨⟨tabOf v.ik v.m, n⟩, p.1, p.2, v.n⟩ := by
  rw [h.toFillA.is, h.q]
  show (if cmpF (tabOf v.ik v.m) q.2 = false then none else _) = _
  rw [if_neg (by rw [hc]; decide), ← hr]
theorem cmp_bad {t : TabS} {o : List (Int × Int)} {l : List Int} (hl : l = sortI (t.m.map (·.1))) {i : Nat} (hi : i < l.length) (h : (t.at (l.getD i 0)).opens ≠ val0 o (l.getD i 0)) : cmpF t o = false := by
  unfold cmpF
  rw [← hl, List.all_eq_false]
  refine ⟨l.getD i 0, ?_, by simpa using h⟩
  rw [List.getD_eq_getElem?_getD, List.getElem?_eq_getElem hi]
  exact List.getElem_mem hi
theorem cmp_ok {t : TabS} {o : List (Int × Int)} {l : List Int} (hl : l = sortI (t.m.map (·.1))) (h : ∀ i, i < l.length → (t.at (l.getD i 0)).opens = val0 o (l.getD i 0)) : cmpF t o = true := by
  unfold cmpF
  rw [← hl, List.all_eq_true]
  intro a ha
  obtain ⟨i, hi, rfl⟩ := List.mem_iff_getElem.1 ha
  have := h i hi
  rw [List.getD_eq_getElem?_getD, List.getElem?_eq_getElem hi, Option.getD_some] at this
  simpa using this
theorem val0_le {m : List (Int × Int)} {n : Int} (h : ∀ p ∈ m, 0 ≤ p.2 ∧ p.2 ≤ n) (h0 : 0 ≤ n) (i : Int) : 0 ≤ val0 m i ∧ val0 m i ≤ n := by
  unfold val0
  cases hg : get m i with
  | none => exact ⟨Int.le_refl _, h0⟩
  | some u =>
    obtain ⟨pre, post, rfl, -⟩ := get_some hg
    exact h (i, u) (by simp)
/-- how often files are counted -/
theorem cnt_le {t : TabS} : ∀ (l : List Hd) (q q' : HdS × List (Int × Int)) (n : Int), 0 ≤ n → (∀ p ∈ q.2, 0 ≤ p.2 ∧ p.2 ≤ n) → l.foldlM (opnF t) q = some q' → ∀ p ∈ q'.2, 0 ≤ p.2 ∧ p.2 ≤ n + l.length
  | [], q, q', n, _, hq, h => by cases h; simpa using hq
  | a :: l, q, q', n, hn, hq, h => by
    rw [List.foldlM_cons] at h
    cases he : opnF t q a with
    | none => rw [he] at h; cases h
    | some d =>
      rw [he] at h
      have h1 : ∀ p ∈ d.2, 0 ≤ p.2 ∧ p.2 ≤ n + 1 := by
        unfold opnF at he
        split at he
        · cases he
          intro p hp
          rcases set_mem hp with rfl | hp
          · have := val0_le hq hn a.2
            show 0 ≤ val0 q.2 a.2 + 1 ∧ val0 q.2 a.2 + 1 ≤ n + 1
            omega
          · have := hq p hp; omega
        · cases he
      have h2 := cnt_le l d q' (n + 1) (by omega) h1 h
      intro p hp
      have := h2 p hp
      rw [List.length_cons]
      omega
theorem first8 {f g : Nat → Int} : first 8 f = first 8 g ↔ ∀ k, k < 8 → f k = g k := by
  constructor
  · intro h k hk
    have h2 := congrArg (fun l => l[k]?) h
    simp only [first, List.getElem?_map, List.getElem?_range hk, Option.map_some] at h2
    exact Option.some.inj h2
  · intro h
    unfold first
    exact List.map_congr_left fun k hk => h k (List.mem_range.1 hk)
theorem first16 {f g : Nat → Int} : first 16 f = first 16 g ↔ ∀ k, k < 16 → f k = g k := by
  constructor
  · intro h k hk
    have h2 := congrArg (fun l => l[k]?) h
    simp only [first, List.getElem?_map, List.getElem?_range hk, Option.map_some] at h2
    exact Option.some.inj h2
  · intro h
    unfold first
    exact List.map_congr_left fun k hk => h k (List.mem_range.1 hk)
theorem same_iff {w w' : World} {s : StS} {e : Ending} {x y : DmC} {v : DVal} (hy : DumpOf w w' s e y) (hx : DmIs x v) : x.same y = true ↔ SameV v s := by
  obtain ⟨x0, x1, x2, x3, x4, -, x6⟩ := hx
  obtain ⟨nl, n1, n2⟩ := hy.nv
  have hev : ∀ k, (2 * k) % 2 = 0 ∧ (2 * k) / 2 = k ∧ ¬ (2 * k + 1) % 2 = 0 ∧ (2 * k + 1) / 2 = k := fun k => by omega
  unfold DmC.same
  simp only [Bool.and_eq_true, decide_eq_true_eq]
  rw [x0, x1, x2, x3, x4, hy.n, hy.m, hy.iv, n2, hy.fl, hy.fs, hy.fr, first8, first8, first16]
  constructor
  · rintro ⟨h1, h0, h2, h3, h4, h5, h6, h7⟩
    refine ⟨h0, h1, h2, ⟨nl, n1, h3⟩, by rw [h4]; exact hy.hv, fun k hk => ?_⟩
    obtain ⟨a, b, c, d⟩ := x6 k hk
    have e5 := h5 k hk
    have e6 := h6 k hk
    have e7 := h7 (2 * k) (by omega)
    have e8 := h7 (2 * k + 1) (by omega)
    obtain ⟨q1, q2, q3, q4⟩ := hev k
    rw [if_pos q1, q2] at e7
    rw [if_neg q3, q4] at e8
    rw [a] at e5; rw [b] at e6; rw [c] at e7; rw [d] at e8
    exact Prod.ext (Prod.ext e5 e6) (Prod.ext e7 e8)
  · intro h
    obtain ⟨nk, k1, k2⟩ := h.nv
    have hn := n1.unique k1 (List.Perm.refl _)
    refine ⟨h.ik, h.n, h.m, by rw [k2, hn], h.hv.unique hy.hv (List.Perm.refl _), fun k hk => ?_, fun k hk => ?_, fun j hj => ?_⟩
    · rw [(x6 k hk).1, h.rw k hk]
    · rw [(x6 k hk).2.1, h.rw k hk]
    · obtain ⟨a, b, c, d⟩ := x6 (j / 2) (by omega)
      have hr := h.rw (j / 2) (by omega)
      by_cases hj2 : j % 2 = 0
      · rw [if_pos hj2]
        have ej : j = 2 * (j / 2) := by omega
        have c' : x.r j = _ := (congrArg x.r ej).trans c
        rw [c', hr]
      · rw [if_neg hj2]
        have ej : j = 2 * (j / 2) + 1 := by omega
        have d' : x.r j = _ := (congrArg x.r ej).trans d
        rw [d', hr]
end Go.Proofs.YtmnkackkeppheaaGreat
/- package state: a new state that is being filled with any dump -/
namespace Esch
open Go Go.RowKit
/-- the blocks from lo on that are not X's -/
abbrev FO (lo : Nat) (X : Nat → Prop) (k : Nat) : Prop := lo ≤ k ∧ ¬ X k
end Esch
namespace Go.Proofs.YtmnkackkeppheaaGreat
open Go.RowKit Esch Go.Shelf

set_option linter.unusedSimpArgs false
set_option linter.unusedVariables false
theorem dmOk_md {w w' : World} {S F : Nat → Prop} {x : DmC} (h : DmOk w S x) (hM : Mod F w w') (hS : ∀ k, S k → k < w.heap.size → ¬ F k) : DmOk w' S x := ⟨h.ino.mod hM hS, h.nam.mod hM hS, h.hdl.mod hM hS, h.i1, h.n1, h.h1⟩
structure FlX (lo : Nat) (X : Nat → Prop) (w0 : World) (b tb hb ob mb ib nb : Nat) (s : StS) (W : World) : Prop where
  st : ∃ S1 S2, StIn W b tb hb ob mb S1 S2 s ∧ (∀ k, S1 k → FO lo X k) ∧ (∀ k, S2 k → FO lo X k)
  t0 : W.cell? ⟨tb, 0, none⟩ = some (.pointer (some ⟨ib, 0, none⟩))
  t1 : W.cell? ⟨tb, 1, none⟩ = some (.pointer (some ⟨nb, 0, none⟩))
  bl : FO lo X b
  ml : FO lo X mb
  ol : FO lo X ob
  xl : ∀ k, X k → k < W.heap.size
  fr : Below lo w0 W
  zl : lo ≤ w0.heap.size
section
variable {lo : Nat} {X : Nat → Prop} {w0 W W' : World} {b tb hb ob mb ib nb : Nat} {s s' : StS}
theorem FlX.lw (h : FlX lo X w0 b tb hb ob mb ib nb s W) : lo ≤ W.heap.size := Nat.le_trans h.zl h.fr.size
theorem FlX.step {G : Nat → Prop} (h : FlX lo X w0 b tb hb ob mb ib nb s W) (hM : Mod G W W') (hG : ∀ k, G k → FO lo X k)
    (hst : ∃ S1 S2, StIn W' b tb hb ob mb S1 S2 s' ∧ (∀ k, S1 k → FO lo X k) ∧ (∀ k, S2 k → FO lo X k)) (h0 : W'.cell? ⟨tb, 0, none⟩ = some (.pointer (some ⟨ib, 0, none⟩))) (h1 : W'.cell? ⟨tb, 1, none⟩ = some (.pointer (some ⟨nb, 0, none⟩))) :
    FlX lo X w0 b tb hb ob mb ib nb s' W' :=
  ⟨hst, h0, h1, h.bl, h.ml, h.ol, fun k hk => Nat.lt_of_lt_of_le (h.xl k hk) hM.size, h.fr.trans (hM.below_at h.lw (fun k hk e => by have := (hG k e).1; omega)), h.zl⟩
theorem FlX.below (h : FlX lo X w0 b tb hb ob mb ib nb s W) (hB : Below W.heap.size W W') : FlX lo X w0 b tb hb ob mb ib nb s W' := by
  obtain ⟨S1, S2, hi, h1, h2⟩ := h.st
  exact h.step (G := none') (Mod.of_below hB) (fun _ e => e.elim) ⟨S1, S2, hi.mod (F := none') (Mod.of_below hB) id id id (fun _ _ => id) (fun _ _ => id), h1, h2⟩ (below_at hB h.t0 (cell_lt h.t0)) (below_at hB h.t1 (cell_lt h.t1))
/-- what is new may be set aside -/
theorem FlX.more {Y : Nat → Prop} (h : FlX lo X w0 b tb hb ob mb ib nb s W) (hB : Below W.heap.size W W') (hY : ∀ k, Y k → X k ∨ (W.heap.size ≤ k ∧ k < W'.heap.size)) : FlX lo Y w0 b tb hb ob mb ib nb s W' := by
  have h' := h.below hB
  obtain ⟨S1, S2, hi, h1, h2⟩ := h.st
  have hi' := hi.mod (F := none') (Mod.of_below hB) id id id (fun _ _ => id) (fun _ _ => id)
  have hg : ∀ k, k < W.heap.size → FO lo X k → FO lo Y k := fun k hk hf => ⟨hf.1, fun hy => (hY k hy).elim hf.2 (fun e => by omega)⟩
  exact ⟨⟨S1, S2, hi', fun k hk => hg k (hi.tr.lt k hk) (h1 k hk), fun k hk => hg k (hi.hd.lt k hk) (h2 k hk)⟩, h'.t0, h'.t1, hg b (cell_lt hi.c0) h.bl, hg mb hi.on.lt h.ml, hg ob (cell_lt hi.on.1) h.ol, fun k hk => (hY k hk).elim (h'.xl k) (fun e => e.2), h'.fr, h'.zl⟩
theorem FlX.less {Y : Nat → Prop} (h : FlX lo X w0 b tb hb ob mb ib nb s W) (hY : ∀ k, Y k → X k) : FlX lo Y w0 b tb hb ob mb ib nb s W := by
  obtain ⟨S1, S2, hi, h1, h2⟩ := h.st
  have hg : ∀ k, FO lo X k → FO lo Y k := fun k hf => ⟨hf.1, fun hy => hf.2 (hY k hy)⟩
  exact ⟨⟨S1, S2, hi, fun k hk => hg k (h1 k hk), fun k hk => hg k (h2 k hk)⟩, h.t0, h.t1, hg b h.bl, hg mb h.ml, hg ob h.ol, fun k hk => h.xl k (hY k hk), h.fr, h.zl⟩
/-- what was set aside is written -/
theorem FlX.side {F : Nat → Prop} (h : FlX lo X w0 b tb hb ob mb ib nb s W) (hM : Mod F W W') (hF : ∀ k, F k → X k ∧ lo ≤ k) : FlX lo X w0 b tb hb ob mb ib nb s W' := by
  obtain ⟨S1, S2, hi, h1, h2⟩ := h.st
  have htb : ¬ F tb := fun e => (h1 tb hi.tr.sb).2 (hF tb e).1
  exact ⟨⟨S1, S2, hi.mod hM (fun e => h.bl.2 (hF b e).1) (fun e => h.ol.2 (hF ob e).1) (fun e => h.ml.2 (hF mb e).1) (fun k hk e => (h1 k hk).2 (hF k e).1) (fun k hk e => (h2 k hk).2 (hF k e).1), h1, h2⟩, hM.at h.t0 htb, hM.at h.t1 htb, h.bl, h.ml, h.ol, fun k hk => Nat.lt_of_lt_of_le (h.xl k hk) hM.size, h.fr.trans (hM.below_at h.lw (fun k hk e => by have := (hF k e).2; omega)), h.zl⟩
theorem FlX.keys (h : FlX lo X w0 b tb hb ob mb ib nb s W) : W.cell? ⟨b, 0, none⟩ = some (.pointer (some ⟨tb, 0, none⟩)) ∧ W.cell? ⟨b, 1, none⟩ = some (.pointer (some ⟨hb, 0, none⟩)) ∧ W.cell? ⟨b, 2, none⟩ = some (.pointer (some ⟨ob, 0, none⟩)) := by
  obtain ⟨S1, S2, hi, -, -⟩ := h.st
  exact ⟨hi.c0, hi.c1, hi.c2⟩
theorem FlX.tab (h : FlX lo X w0 b tb hb ob mb ib nb s W) : ∃ S1 S2 Sa Sb, StIn W b tb hb ob mb S1 S2 s ∧ (∀ k, S1 k → FO lo X k) ∧ (∀ k, S2 k → FO lo X k) ∧ S1 tb ∧ (∀ k, S1 k → k < W.heap.size) ∧ TabAt W ib Sa s.t.t ∧ DirAt W nb Sb s.t.n ∧
    (∀ k, Sa k → S1 k) ∧ (∀ k, Sb k → S1 k) ∧ (∀ k, Sa k → ¬ Sb k) ∧ ¬ Sa tb ∧ ¬ Sb tb := by
  obtain ⟨S1, S2, hi, h1, h2⟩ := h.st
  obtain ⟨sb, lt, ib', nb', Sa, Sb, c0, c1, ht, hn, s1, s2, d, b1, b2⟩ := hi.tr
  obtain rfl : ib' = ib := by have := h.t0; rw [c0] at this; cases this; rfl
  obtain rfl : nb' = nb := by have := h.t1; rw [c1] at this; cases this; rfl
  exact ⟨S1, S2, Sa, Sb, hi, h1, h2, sb, lt, ht, hn, s1, s2, d, b1, b2⟩
theorem FlX.grown (h : FlX lo X w0 b tb hb ob mb ib nb s W) {S : Nat → Prop} (hS : ∀ k, S k → FO lo X k) : ∀ k, growI S W W' k → FO lo X k := fun k hk => hk.elim (hS k) fun g => ⟨Nat.le_trans h.lw g.1, fun hx => by have := h.xl k hx; omega⟩
def IldPost (lo : Nat) (X : Nat → Prop) (w0 : World) (b tb hb ob mb ib nb : Nat) (s : StS) (l : List InS) (nx : Int) (W : World) (e : Ending) (w' : World) : Prop := e = .returned (.int .i64 (loadP l nx)) ∧ Mod (fun k => FO lo X k ∧ k ≠ b) W w' ∧ (loadP l nx = 0 → FlX lo X w0 b tb hb ob mb ib nb { s with t := ⟨tabOf l nx, s.t.n⟩ } w')
theorem FlX.ild (h : FlX lo X w0 b tb hb ob mb ib nb s W) {T : Nat → Prop} {ia : Option Addr} {ic : Nat} {l : List InC} (hx : InosAt W T ia l) (nx : Int) : Calls Tryz.prog 90 #[.pointer (some ⟨ib, 0, none⟩), .slice ia l.length ic, .int .i64 nx] W (IldPost lo X w0 b tb hb ob mb ib nb s (l.map InC.val) nx W) := by
  obtain ⟨S1, S2, Sa, Sb, hi, h1, h2, sb, lt, ht, hn, s1, s2, d, b1, b2⟩ := h.tab
  refine (inoLoad_any W ib Sa s.t.t ht T ia ic l hx nx).mono ?_
  rintro e w' ⟨rfl, hM, hT⟩
  have hMS : Mod Sa W w' := hM.mono fun k _ e => by rw [show k = ib from e]; exact ht.sb
  have hib := s1 ib ht.sb
  refine ⟨rfl, hM.mono fun k _ e => by rw [show k = ib from e]; exact ⟨h1 ib hib, fun e => hi.b1 (by rw [← e]; exact hib)⟩, fun h0 => ?_⟩
  obtain ⟨hTr, hM1⟩ := TreeAt.tabG (s := s.t) sb lt h.t0 h.t1 hn s1 s2 d b1 b2 (hT h0) hMS
  exact h.step hM1 (fun k e => h1 k e) ⟨_, _, hi.tree hTr hM1, h.grown h1, h2⟩ (hMS.at h.t0 b1) (hMS.at h.t1 b1)
def FlPx (lo : Nat) (X : Nat → Prop) (w0 : World) (b tb hb ob mb ib nb : Nat) (s : StS) (x : Int) (W : World) (e : Ending) (w' : World) : Prop := e = .returned (.int .i64 x) ∧ Mod (FO lo X) W w' ∧ FlX lo X w0 b tb hb ob mb ib nb s w'
theorem FlX.add (h : FlX lo X w0 b tb hb ob mb ib nb s W) (d : Int) (n : Nm) (i : Int) (hk : s.t.n.ok) : Calls Tryz.prog 91 #[.pointer (some ⟨nb, 0, none⟩), .int .i64 d, .string (bs n), .int .i64 i] W (FlPx lo X w0 b tb hb ob mb ib nb { s with t := ⟨s.t.t, (s.t.n.add d n i).2⟩ } (s.t.n.add d n i).1 W) := by
  obtain ⟨S1, S2, Sa, Sb, hi, h1, h2, sb, lt, ht, hn, s1, s2, dd, b1, b2⟩ := h.tab
  refine (dirAdd_any W nb Sb s.t.n hn d n i (hk.nn d) (hk.le d)).mono ?_
  rintro e w' ⟨rfl, hD, hM⟩
  have hM1 : Mod S1 W w' := hM.mono fun k _ e => s2 k e
  have hTr : TreeAt w' tb S1 ⟨s.t.t, (s.t.n.add d n i).2⟩ := ⟨sb, fun k hk => Nat.lt_of_lt_of_le (lt k hk) hM.size, ib, nb, Sa, Sb, hM.at h.t0 b2, hM.at h.t1 b2, ht.mod hM dd, hD, s1, s2, dd, b1, b2⟩
  exact ⟨rfl, hM1.mono fun k _ e => h1 k e, h.step hM1 (fun k e => h1 k e) ⟨_, _, hi.tree (hTr.grow W) hM1, h.grown h1, h2⟩ (hM.at h.t0 b2) (hM.at h.t1 b2)⟩
theorem FlX.hopn (h : FlX lo X w0 b tb hb ob mb ib nb s W) (c n i : Int) (hl : s.h.m.length ≤ 100000) : Calls Tryz.prog 93 #[.pointer (some ⟨hb, 0, none⟩), .int .i64 c, .int .i64 n, .int .i64 i] W (FlPx lo X w0 b tb hb ob mb ib nb { s with h := (s.h.opn c n i).2 } (s.h.opn c n i).1 W) := by
  obtain ⟨S1, S2, hi, h1, h2⟩ := h.st
  refine (hdlOpen_any W hb S2 s.h hi.hd hl c n i).mono ?_
  rintro e w' ⟨rfl, hH, hM⟩
  have htb : ¬ S2 tb := fun e => hi.ap tb hi.tr.sb e
  exact ⟨rfl, hM.mono fun k _ e => h2 k e, h.step hM (fun k e => h2 k e) ⟨S1, S2, hi.hdl hH hM, h1, h2⟩ (hM.at h.t0 htb) (hM.at h.t1 htb)⟩
theorem FlX.renew (h : FlX lo X w0 b tb hb ob mb ib nb s W) (c t : Int) : Calls Tryz.prog 95 #[.pointer (some ⟨hb, 0, none⟩), .int .i64 c, .int .i64 t] W (FlPx lo X w0 b tb hb ob mb ib nb { s with h := (s.h.renew c t).2 } (s.h.renew c t).1 W) := by
  obtain ⟨S1, S2, hi, h1, h2⟩ := h.st
  refine (hdlRenew_any W hb S2 s.h hi.hd c t).mono ?_
  rintro e w' ⟨rfl, hH, hM⟩
  have htb : ¬ S2 tb := fun e => hi.ap tb hi.tr.sb e
  exact ⟨rfl, hM.mono fun k _ e => h2 k e, h.step hM (fun k e => h2 k e) ⟨S1, S2, hi.hdl hH hM, h1, h2⟩ (hM.at h.t0 htb) (hM.at h.t1 htb)⟩
theorem FlX.note (h : FlX lo X w0 b tb hb ob mb ib nb s W) (c q x y : Int) : Calls Tryz.prog 96 #[.pointer (some ⟨ob, 0, none⟩), .int .i64 c, .int .i64 q, .agg #[.int .i64 x, .int .i64 y]] W (FlPx lo X w0 b tb hb ob mb ib nb { s with o := (onote s.o c q (x, y)).2 } (onote s.o c q (x, y)).1 W) := by
  obtain ⟨S1, S2, hi, h1, h2⟩ := h.st
  refine (onceNote_any c q x y W ob mb s.o hi.on hi.om).mono ?_
  rintro e w' ⟨rfl, hO, hM⟩
  have htb : ¬ tb = mb := fun e => hi.m1 (by rw [← e]; exact hi.tr.sb)
  exact ⟨rfl, hM.mono fun k _ e => by rw [show k = mb from e]; exact h.ml, h.step hM (fun k e => by rw [show k = mb from e]; exact h.ml) ⟨S1, S2, hi.once hO hM, h1, h2⟩ (hM.at h.t0 htb) (hM.at h.t1 htb)⟩
theorem FlX.nxt (h : FlX lo X w0 b tb hb ob mb ib nb s W) (n : Int) : FlX lo X w0 b tb hb ob mb ib nb { s with next := n } (W.setCell ⟨b, 3, none⟩ (.int .i64 n)) ∧ Mod (FO lo X) W (W.setCell ⟨b, 3, none⟩ (.int .i64 n)) := by
  obtain ⟨S1, S2, hi, h1, h2⟩ := h.st
  have hM : Mod (· = b) W (W.setCell ⟨b, 3, none⟩ (.int .i64 n)) := (Mod.refl (· = b) W).setCellAt (fun _ => rfl) _
  have htb : ¬ tb = b := fun e => hi.b1 (by rw [← e]; exact hi.tr.sb)
  exact ⟨h.step hM (fun k e => by rw [show k = b from e]; exact h.bl) ⟨S1, S2, hi.nxt n, h1, h2⟩ (hM.at h.t0 htb) (hM.at h.t1 htb), hM.mono fun k _ e => by rw [show k = b from e]; exact h.bl⟩
theorem FlX.stat (h : FlX lo X w0 b tb hb ob mb ib nb s W) (i : Int) : Calls Tryz.prog 92 #[.pointer (some ⟨ib, 0, none⟩), .int .i64 i] W fun e w' => e = .returned (.tuple #[statV (s.t.t.at i), .bool (s.t.t.has i)]) ∧ Below W.heap.size W w' := by
  obtain ⟨S1, S2, Sa, Sb, hi, h1, h2, sb, lt, ht, -⟩ := h.tab
  exact inoStat_any W ib Sa s.t.t ht i
theorem FlX.opens (h : FlX lo X w0 b tb hb ob mb ib nb s W) (i : Int) : Calls Tryz.prog 94 #[.pointer (some ⟨ib, 0, none⟩), .int .i64 i] W fun e w' => e = .returned (.int .i64 (s.t.t.at i).opens) ∧ Below W.heap.size W w' := by
  obtain ⟨S1, S2, Sa, Sb, hi, h1, h2, sb, lt, ht, -⟩ := h.tab
  exact inoOpens_any W ib Sa s.t.t ht i
theorem FlX.all (h : FlX lo X w0 b tb hb ob mb ib nb s W) (hl : s.t.t.m.length ≤ 100000) : Calls Tryz.prog 76 #[.pointer (some ⟨ib, 0, none⟩)] W (AllPost W s.t.t.m) := by
  obtain ⟨S1, S2, Sa, Sb, hi, h1, h2, sb, lt, ht, -⟩ := h.tab
  exact inoAll_any W ib Sa s.t.t ht hl
theorem FlX.check (h : FlX lo X w0 b tb hb ob mb ib nb s W) (hl : s.t.n.m.length ≤ 100000) (hl2 : s.t.t.m.length ≤ 100000) : Calls Tryz.prog 97 #[.pointer (some ⟨tb, 0, none⟩)] W (CkPost s.t W) := by
  obtain ⟨S1, S2, hi, h1, h2⟩ := h.st
  exact check_any W tb S1 s.t hi.tr hl hl2
theorem FlX.at (h : FlX lo X w0 b tb hb ob mb ib nb s W) : SttAt W b (fun k => k < W.heap.size) s := by
  obtain ⟨S1, S2, hi, h1, h2⟩ := h.st
  exact ⟨cell_lt hi.c0, fun k hk => hk, tb, hb, ob, mb, S1, S2, hi, hi.tr.lt, hi.hd.lt, cell_lt hi.on.1, hi.on.lt⟩
theorem FlX.dump (h : FlX lo X w0 b tb hb ob mb ib nb s W) (h1 : s.t.t.m.length ≤ 100000) (h2 : s.t.n.m.length ≤ 100000) (h3 : s.h.m.length ≤ 100000) : Calls Tryz.prog 15 #[.pointer (some ⟨b, 0, none⟩)] W (fun e w' => ∃ y, DumpOf W w' s e y) :=
  (stDump_any W b _ s h.at h1 h2 h3).mono fun e w' h => dump_of h h1 h2 h3
end
/-- what fill comes to -/
def FlPost (lo : Nat) (w : World) (b tb hb ob mb : Nat) (v : DVal) (e : Ending) (w' : World) : Prop := ∃ r : Bool, e = .returned (.bool r) ∧ Below lo w w' ∧ (r = true ↔ ∃ s, LoadOk v s) ∧ ∀ s, LoadOk v s → ∃ S1 S2, StIn w' b tb hb ob mb S1 S2 s ∧ (∀ k, S1 k → lo ≤ k) ∧ (∀ k, S2 k → lo ≤ k)
theorem FlPost.no {lo : Nat} {w : World} {b tb hb ob mb : Nat} {v : DVal} {w' : World} (hn : ¬ ∃ s, LoadOk v s) (hB : Below lo w w') : FlPost lo w b tb hb ob mb v (.returned (.bool false)) w' := ⟨false, rfl, hB, ⟨fun e => (by cases e), fun h => absurd h hn⟩, fun s hs => absurd ⟨s, hs⟩ hn⟩
/-- the dump's box and rows -/
structure DmKp (lo : Nat) (X : Nat → Prop) (xb : Nat) (x : DmC) (W : World) : Prop where
  bx : DmBox W xb (fun j => (x.cells[j]?).getD undef)
  ok : DmOk W (fun k => k < lo) x
  xx : X xb
theorem DmKp.mod {lo : Nat} {X : Nat → Prop} {xb : Nat} {x : DmC} {W W' : World} {F : Nat → Prop} (h : DmKp lo X xb x W) (hM : Mod F W W') (hF : ∀ k, F k → FO lo X k) : DmKp lo X xb x W' := ⟨h.bx.mods hM (fun e => (hF _ e).2 h.xx), dmOk_md h.ok hM (fun k hk _ e => by have := (hF k e).1; omega), h.xx⟩
theorem DmKp.to {lo : Nat} {X Y : Nat → Prop} {xb : Nat} {x : DmC} {W : World} (h : DmKp lo X xb x W) (hY : Y xb) : DmKp lo Y xb x W := ⟨h.bx, h.ok, hY⟩
theorem DmKp.oth {lo : Nat} {X F : Nat → Prop} {xb : Nat} {x : DmC} {W W' : World} (h : DmKp lo X xb x W) (hM : Mod F W W') (hF : ∀ k, F k → lo ≤ k ∧ k ≠ xb) : DmKp lo X xb x W' := ⟨h.bx.mods hM (fun e => (hF _ e).2 rfl), dmOk_md h.ok hM (fun k hk _ e => by have := (hF k e).1; omega), h.xx⟩
theorem DmKp.below {lo : Nat} {X : Nat → Prop} {xb : Nat} {x : DmC} {W W' : World} (h : DmKp lo X xb x W) (hB : Below W.heap.size W W') : DmKp lo X xb x W' := h.mod (F := none') (Mod.of_below hB) (fun _ e => e.elim)
theorem DmKp.keys {lo : Nat} {X : Nat → Prop} {xb : Nat} {x : DmC} {W : World} (h : DmKp lo X xb x W) : W.cell? ⟨xb, 0, none⟩ = some (.int .i64 x.n) ∧ W.cell? ⟨xb, 1, none⟩ = some (.slice x.ia x.ik.length x.ic) ∧ W.cell? ⟨xb, 2, none⟩ = some (.int .i64 x.m) ∧ W.cell? ⟨xb, 3, none⟩ = some (.slice x.na x.nl.length x.nc) ∧ W.cell? ⟨xb, 4, none⟩ = some (.slice x.ha x.hl.length x.hc) :=
  ⟨h.bx.at' 0 (by decide), h.bx.at' 1 (by decide), h.bx.at' 2 (by decide), h.bx.at' 3 (by decide), h.bx.at' 4 (by decide)⟩
theorem dm_rows2 (x : DmC) (i : Nat) (h : i < 8) : x.cells[5 + i]? = some (.int .i64 (x.l i)) ∧ x.cells[13 + i]? = some (.int .i64 (x.s i)) ∧ x.cells[21 + i * 2]? = some (.int .i64 (x.r (2 * i))) ∧ x.cells[21 + i * 2 + 1]? = some (.int .i64 (x.r (2 * i + 1))) := by
  match i, h with
  | 0, _ | 1, _ | 2, _ | 3, _ | 4, _ | 5, _ | 6, _ | 7, _ => exact ⟨rfl, rfl, rfl, rfl⟩
theorem DmKp.row {lo : Nat} {X : Nat → Prop} {xb : Nat} {x : DmC} {W : World} (h : DmKp lo X xb x W) (i : Nat) (hi : i < 8) : W.cell? ⟨xb, 5 + i, none⟩ = some (.int .i64 (x.l i)) ∧ W.cell? ⟨xb, 13 + i, none⟩ = some (.int .i64 (x.s i)) ∧ W.cell? ⟨xb, 21 + i * 2, none⟩ = some (.int .i64 (x.r (2 * i))) ∧ W.cell? ⟨xb, 21 + i * 2 + 1, none⟩ = some (.int .i64 (x.r (2 * i + 1))) := by
  obtain ⟨a, b, c, d⟩ := dm_rows2 x i hi
  exact ⟨by rw [h.bx.at' _ (by omega), a]; rfl, by rw [h.bx.at' _ (by omega), b]; rfl, by rw [h.bx.at' _ (by omega), c]; rfl, by rw [h.bx.at' _ (by omega), d]; rfl⟩
theorem DmKp.range {lo : Nat} {X : Nat → Prop} {xb : Nat} {x : DmC} {W : World} (h : DmKp lo X xb x W) : W.rangeAt xb 0 x.cells := h.bx.rangeL rfl
theorem neqRes (w : World) (x y : Int) : (binOp .neq 29 (.agg #[.int .i64 x, .int .i64 y]) (.agg #[.int .i64 0, .int .i64 0])).run Tryz.prog w = .ok (.bool (!(decide (x = 0) && decide (y = 0)))) w := by
  have u3 := Tryz.underlying3
  have a3 := Tryz.isAgg3
  have z3 := Tryz.sizeOf3
  have hS : Tryz.prog.underlying 29 = some (.struct (Tryz.prog.fieldsOf 29)) := by kernel_rfl
  have hp : Tryz.prog.stoodInHeld 29 = false := by kernel_rfl
  rw [run_neq_struct, show (10000 : Nat) = 9999 + 1 from rfl, run_equalIn_agg w 9999 29 _ _ hS hp]
  simp only [Program.fieldsOf, Tryz.underlying29]
  go_simp
  by_cases h1 : x = 0 <;> by_cases h2 : y = 0 <;> simp [h1, h2]
end Go.Proofs.YtmnkackkeppheaaGreat
