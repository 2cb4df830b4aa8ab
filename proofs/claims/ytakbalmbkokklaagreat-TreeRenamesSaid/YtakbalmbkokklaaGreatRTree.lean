/- the document's tree: New, kind, Find -/
import Derived.Test.YtakbalmbkokklaaGreatRTreeM
import Derived.Test.YtakbalmbkokklaaGreatRPath
import Derived.Test.YtakbalmbkokklaaGreatPkTree
namespace Esch
open Go Go.RowKit
/-- the document's tree in memory: all blocks in R -/
structure RTreeAt (w : World) (q : Nat) (R : Nat → Prop) (s : TrS) : Prop where
  rq : R q
  lt : ∀ k, R k → k < w.heap.size
  ex : ∃ ib nb T1 T2 L, w.cell? ⟨q, 0, none⟩ = some (.pointer (some ⟨ib, 0, none⟩)) ∧ w.cell? ⟨q, 1, none⟩ = some (.pointer (some ⟨nb, 0, none⟩)) ∧ RTabAt w ib T1 s.t ∧ Go.Proofs.YtakbalmbkokklaaGreat.RNamAt w nb T2 L ∧ Srt s.n.m L ∧
    (∀ k, T1 k → R k) ∧ (∀ k, T2 k → R k) ∧ (∀ k, T1 k → ¬ T2 k) ∧ ¬ T1 q ∧ ¬ T2 q
theorem RTreeAt.mod {w w' : World} {q : Nat} {R F : Nat → Prop} {s : TrS} (h : RTreeAt w q R s) (hM : Mod F w w') (hF : ∀ k, R k → ¬ F k) : RTreeAt w' q R s := by
  obtain ⟨rq, lt, ib, nb, T1, T2, L, c0, c1, ht, hn, hs, s1, s2, d, b1, b2⟩ := h
  exact ⟨rq, fun k hk => Nat.lt_of_lt_of_le (lt k hk) hM.size, ib, nb, T1, T2, L, hM.at c0 (hF q rq), hM.at c1 (hF q rq), ht.mod hM (fun k hk => hF k (s1 k hk)), hn.mod hM (fun k hk => hF k (s2 k hk)), hs, s1, s2, d, b1, b2⟩
theorem RTreeAt.below' {w w' : World} {q : Nat} {R : Nat → Prop} {s : TrS} (h : RTreeAt w q R s) (hB : Below w.heap.size w w') : RTreeAt w' q R s := h.mod (F := none') (Mod.of_below hB) fun _ _ => id
theorem RTreeAt.wide {w : World} {q : Nat} {R U : Nat → Prop} {s : TrS} (h : RTreeAt w q R s) (hU : ∀ k, R k → U k) (hl : ∀ k, U k → k < w.heap.size) : RTreeAt w q U s := by
  obtain ⟨rq, lt, ib, nb, T1, T2, L, c0, c1, ht, hn, hs, s1, s2, d, b1, b2⟩ := h
  exact ⟨hU q rq, hl, ib, nb, T1, T2, L, c0, c1, ht, hn, hs, fun k hk => hU k (s1 k hk), fun k hk => hU k (s2 k hk), d, b1, b2⟩
/-- what is kept while the tree goes on -/
structure GK (s : TrS) : Prop where
  good : GoodS s
  len : s.t.m.length ≤ 64
  nlen : s.n.m.length ≤ 1000
theorem GK.ki {s : TrS} (h : GK s) : KI s.t := h.good.ki h.len
theorem GK.L {s : TrS} (h : GK s) {L : List Ent} (hs : Srt s.n.m L) : L.length ≤ 1000 := by rw [hs.perm.length_eq]; exact h.nlen
end Esch
namespace Go.Proofs.YtakbalmbkokklaaGreat
open Go.RowKit Esch Go.Shelf

set_option maxRecDepth 100000 in
set_option maxHeartbeats 1000000 in
theorem rtNew_any (w : World) : Calls Tryz.prog 30 #[] w fun e w' => ∃ q, e = .returned (.pointer (some ⟨q, 0, none⟩)) ∧ RTreeAt w' q (fun k => w.heap.size ≤ k ∧ k < w'.heap.size) tr0 ∧ Below w.heap.size w w' := by
  go_enter Tryz.func30, Tryz.ntmps30
  go_wp2_with fail
  refine (rinoNew_any _).mono ?_
  rintro e w1 ⟨ib, rfl, hT, hB⟩
  have HT := Lib.hid hT
  have HB := Lib.hid hB
  have hz := hB.size
  have hib := hT.lt ib hT.tb
  clear hT hB
  go_wp2_with fail
  go_ret
  refine ⟨w1.heap.size + 1, rfl, ⟨⟨by omega, by simp⟩, fun k hk => hk.2, ib, w1.heap.size, _, (fun k => k = w1.heap.size), [], by go_simp, by go_simp, HT.out.mod (F := none') (by exact modC (Mod.refl _ _)) (fun _ _ => id), ⟨rfl, fun k hk => by subst hk; simp; omega, none, 0, by go_simp, by go_simp, GRowAt.nil _ _ _ _⟩, Srt.mk' (List.Perm.refl _) List.Pairwise.nil, fun k hk => ⟨hk.1, by simp; omega⟩, fun k hk => by subst hk; exact ⟨by omega, by simp; omega⟩, fun k hk e => by subst e; omega, fun hk => by omega, fun hk => by omega⟩, by exact belC HB.out⟩
set_option maxRecDepth 100000 in
set_option maxHeartbeats 4000000 in
theorem rtKind_any (w : World) (q : Nat) (R : Nat → Prop) (s : TrS) (h : RTreeAt w q R s) (hg : GK s) (i : Int) :
    Calls Tryz.prog 100 #[.pointer (some ⟨q, 0, none⟩), .int .i64 i] w fun e w' => e = .returned (.int .i64 (s.kind i)) ∧ w' = w := by
  obtain ⟨rq, lt, ib, nb, T1, T2, L, c0, c1, ht, hn, hs, s1, s2, d, b1, b2⟩ := h
  have hfi := rFind_any w ib T1 s.t ht hg.ki i
  obtain ⟨tb, ltt, ao, cap, t0, f0, t1, f1, hgr⟩ := ht
  have HG := Lib.hid hgr
  have hql := cell_lt c0
  have htl := cell_lt t0
  obtain ⟨kv, hkv⟩ : ∃ kv, kv = s.kind i := ⟨_, rfl⟩
  rw [← hkv]
  have HKV := Lib.hid hkv
  clear hn hs s1 s2 d b1 b2 hgr f0 f1 t1 hkv
  go_enter Tryz.func100, Tryz.ntmps100
  go_wp2_with fail
  refine hfi.mono ?_
  clear hfi
  rintro e w1 ⟨⟨r, rfl, hr⟩, rfl⟩
  rcases hr with ⟨hf, rfl⟩ | ⟨pre, post, hsp, -, rfl⟩
  · have hv : kv = 0 := by
      rw [HKV.out]; unfold TrS.kind TabS.at
      unfold TabS.has at hf
      cases e : get s.t.m i with
      | none => rfl
      | some x => rw [e] at hf; cases hf
    subst hv
    clear hf
    go_wp2_with fail
    go_ret
    exact ⟨rfl, rfl⟩
  · have hv : kv = (s.t.at i).kind := HKV.out
    obtain ⟨x, hx⟩ : ∃ x, x = s.t.at i := ⟨_, rfl⟩
    rw [← hx] at hsp hv
    subst hv
    obtain ⟨rb, ro, rfl, hS, hrl, d0, d1, d2, d3, d4, d5, df⟩ := inoAt (x := x) (pre := pre) (post := post) (i := i) (by rw [← hsp]; exact HG.out)
    have hnn : (0 : Int) ≤ ((pre.length : Nat) : Int) := by omega
    have hpl : pre.length < s.t.m.length := by rw [hsp, List.length_append, List.length_cons]; omega
    have hil : (0 : Int) ≤ (pre.length : Nat) ∧ ((pre.length : Nat) : Int) < s.t.m.length := by omega
    clear hsp d0 d2 d3 d4 d5 df hpl hS hx HKV
    go_wp2_with fail
    go_ret
    exact ⟨rfl, rfl⟩
def RFindPost (w : World) (r : Res Int) (e : Ending) (w' : World) : Prop := e = .returned (.tuple #[.int .i64 (r.val 0), .int .i64 r.code]) ∧ Below w.heap.size w w'
def RtfRel (s : TrS) (l : List Nm) (w : World) (g : Nat) (s8 s9 : Value) (wr : World) : Prop := ∃ (k : Nat) (at' : Int), g = l.length - k ∧ k ≤ l.length ∧ s8 = .int .i64 at' ∧ s9 = .int .i64 k ∧ s.res 1 l = s.res at' (l.drop k) ∧ Below w.heap.size w wr
set_option maxRecDepth 100000 in
set_option maxHeartbeats 4000000 in
theorem rtFind_any (w : World) (q : Nat) (R : Nat → Prop) (s : TrS) (h : RTreeAt w q R s) (hg : GK s) (p : Nm) (hp : p.length ≤ 100000) :
    Calls Tryz.prog 103 #[.pointer (some ⟨q, 0, none⟩), .string (bs p)] w (RFindPost w (s.resolve p)) := by
  have hsp := rSplit_any w p hp
  have hkd := fun W hW i => rtKind_any W q R s hW hg i
  have H := Lib.hid h
  unfold TrS.resolve
  cases hr : namesOf p with
  | none =>
    rw [hr] at hsp
    clear h hr
    go_enter Tryz.func103, Tryz.ntmps103
    go_wp2_with fail
    refine hsp.mono ?_
    clear hsp
    rintro e w1 ⟨hB, rfl⟩
    go_wp2_with fail
    go_ret2
    exact ⟨rfl, hB⟩
  | some l =>
    rw [hr] at hsp
    have hl8 := (namesOf_some hr).1
    obtain ⟨rq, lt, ib, nb, T1, T2, L, c0, c1, ht, hn, hs, s1, s2, d, b1, b2⟩ := h
    have hgt : ∀ W, Below w.heap.size w W → ∀ dd n, Calls Tryz.prog 128 #[.pointer (some ⟨nb, 0, none⟩), .int .i64 dd, .string (bs n)] W fun e w' => e = .returned (.tuple #[.int .i64 ((s.n.find dd n).getD 0), .bool (s.n.find dd n).isSome]) ∧ w' = W := fun W hB dd n => by
      have := rNFind_any W nb T2 L (hn.below' hB) (by have := hg.L hs; omega) dd n
      rw [hs.get hg.good.ok.n.nd] at this
      exact this
    have hql := cell_lt c1
    clear ht hn hs s1 s2 d b1 b2 lt hr c0
    show Calls _ _ _ w (RFindPost w (s.res 1 l))
    obtain ⟨r, hrr⟩ : ∃ r, r = s.res 1 l := ⟨_, rfl⟩
    rw [← hrr]
    have HR := Lib.hid hrr
    clear hrr
    go_enter Tryz.func103, Tryz.ntmps103
    go_wp2_with fail
    refine hsp.mono ?_
    clear hsp
    rintro e w1 ⟨hB, a, c, rfl, hN, hC⟩
    have HB := Lib.hid hB
    have HN := Lib.hid hN
    clear hB hN hC
    go_wp2_with fail
    go_loopg [8, 9] l.length (fun g s8 s9 wr => RtfRel s l w1 g s8 s9 wr)
    case atStart => exact ⟨0, 1, rfl, Nat.zero_le _, rfl, rfl, rfl, Below.refl _ _⟩
    case round =>
      obtain ⟨k, at', rfl, hkl, rfl, rfl, hrs, hB⟩ := hrel
      have HRS := Lib.hid (HR.out.trans hrs)
      have HBr := Lib.hid hB
      have HBw := Lib.hid (HB.out.trans (hB.mono HB.out.size))
      clear hrs hB
      by_cases hlt : k < l.length
      · obtain ⟨ab, ao, rfl, -, hal, hac⟩ := HN.out (by omega)
        have d0 := below_at HBr.out (hac k hlt) hal
        have hdr : l.drop k = l.getD k [] :: l.drop (k + 1) := by
          rw [List.getD_eq_getElem?_getD, List.getElem?_eq_getElem hlt]
          exact List.drop_eq_getElem_cons hlt
        have hst := HRS.out
        rw [hdr] at hst
        generalize l.getD k [] = n at *
        have c1r := below_at HBw.out c1 hql
        have hkk := hkd wr (H.out.below' HBw.out) at'
        have hki : (0 : Int) ≤ k ∧ (k : Int) < l.length := by omega
        have hms : l.length - (k + 1) < l.length - k := by omega
        have hwr := Lib.hid (show wrap64 ((k : Int) + 1) = ((k + 1 : Nat) : Int) by unfold wrap64; omega)
        have Hlt := Lib.hid hlt
        have hal2 := cell_lt d0
        have hql2 := cell_lt c1r
        have heq : s.res at' (n :: l.drop (k + 1)) = if s.kind at' ≠ 1 then .err 62 else match s.n.find at' n with
          | none => .err 60
          | some i => s.res i (l.drop (k + 1)) := rfl
        rw [heq] at hst
        clear heq
        by_cases hk1 : s.kind at' ≠ 1
        · have hst2 : r = .err 62 := by rw [hst, if_pos hk1]
          have hk2 : (s.kind at' != 1) = true := by simpa using hk1
          subst hst2
          generalize s.kind at' = kv at *
          clear hst hdr hac hk1 hlt hkl
          go_wp2_with fail
          refine hkk.mono ?_
          clear hkk
          rintro e w2 ⟨rfl, rfl⟩
          go_wp2_with fail
          go_ret2
          exact ⟨rfl, HBw.out⟩
        · have hk2 : (s.kind at' != 1) = false := by simpa using hk1
          have hst2 : r = match s.n.find at' n with | none => .err 60 | some i => s.res i (l.drop (k + 1)) := by rw [hst, if_neg hk1]
          have hgg := fun W hB => hgt W hB at' n
          have HST := Lib.hid hst2
          generalize s.kind at' = kv at *
          generalize hfd : s.n.find at' n = fd at *
          clear hst hst2 hdr hac hk1 hlt hkl
          have hKd : wr.drew.cell? ⟨q, 1, none⟩ = some (.pointer (some ⟨nb, 0, none⟩)) ∧ wr.drew.cell? ⟨ab, ao + k, none⟩ = some (.string (bs n)) := ⟨c1r, d0⟩
          have hgd := hgg wr.drew HBw.out.drew
          go_wp2_with fail
          refine hkk.mono ?_
          clear hkk
          rintro e w2 ⟨rfl, rfl⟩
          go_wp2_with fail
          go_region_held3 (fun W' => W'.cell? ⟨q, 1, none⟩ = some (.pointer (some ⟨nb, 0, none⟩)) ∧ W'.cell? ⟨ab, ao + k, none⟩ = some (.string (bs n)))
            (first
              | with_reducible exact hKd
              | with_reducible exact hK2)
            (first
              | (go_at_call 128; (with_reducible refine hgd.mono ?_); rintro e w3 ⟨rfl, rfl⟩
                 have hK2 := hKd))
          cases fd with
          | none =>
            have hst3 : r = .err 60 := HST.out
            subst hst3
            clear HST
            go_wp2_with fail
            go_ret2
            exact ⟨rfl, HBw.out.drew⟩
          | some i =>
            have hst3 : r = s.res i (l.drop (k + 1)) := HST.out
            have HS3 := Lib.hid hst3
            clear hst3 HST
            go_wp2_with fail
            go_roundg (l.length - (k + 1))
            case measure => exact hms
            case rel => exact ⟨k + 1, i, rfl, Hlt.out, rfl, by first | rfl | rw [hwr.out], by rw [← HR.out]; exact HS3.out, HBr.out.drew⟩
      · obtain rfl : k = l.length := by omega
        have hst := HRS.out
        rw [List.drop_length] at hst
        have hst : r = .ok at' := hst
        subst hst
        clear hlt hkl
        go_wp2_with fail
        go_ret2
        exact ⟨rfl, HBw.out⟩
end Go.Proofs.YtakbalmbkokklaaGreat
