import Derived.Test.YtajbooppoohplaaGreatDoorMac
import Derived.Test.YtajbooppoohplaaGreatDoorPkIno
import Derived.Test.YtajbooppoohplaaGreatDoorShelf2
import Derived.Test.YtajbooppoohplaaGreatDoorShelf3
import Derived.RangeFuncGives
import Derived.Shelf.AbstractIn
import Derived.OwnWalkIn
import Derived.TacticsInMore
import Derived.LoopNIn
import Derived.LoopIn
import Derived.RegionIn
import Derived.Test.YtajbooppoohplaaGreatDoorPkDir
import Derived.Test.YtajbooppoohplaaGreatDoorPkExt
import Derived.Defers
import Derived.Recover
/- package inode: All, the numbers of the inodes, rising -/
set_option maxRecDepth 100000
set_option maxHeartbeats 4000000
namespace Esch
open Go Go.RowKit
/-- numbers in memory -/
def NumsAt (S : Nat → Prop) (w : World) (a : Option Addr) (l : List Int) : Prop :=
  0 < l.length → ∃ b off, a = some ⟨b, off, none⟩ ∧ S b ∧ b < w.heap.size ∧ ∀ i, i < l.length → w.cell? ⟨b, off + i, none⟩ = some (.int .i64 (l.getD i 0))
theorem NumsAt.nil (S : Nat → Prop) (w : World) (a : Option Addr) : NumsAt S w a [] := fun h => absurd h (by simp)
theorem NumsAt.sub {S T : Nat → Prop} {w : World} {a : Option Addr} {l : List Int} (h : NumsAt S w a l) (hS : ∀ k, k < w.heap.size → S k → T k) : NumsAt T w a l := fun h0 => by
  obtain ⟨b, off, e, hb, hl, hc⟩ := h h0
  exact ⟨b, off, e, hS b hl hb, hl, hc⟩
theorem owns_nums {w : World} {B : Nat} {e : TypeId} {v : Value} {l : List Int} {n : Nat} (h : w.ownsRow B e 1 v n (l.map (Value.int .i64))) : ∃ a c, v = .slice a l.length c ∧ NumsAt (From B) w a l ∧ CapN l.length c := by
 obtain ⟨hl, h⟩ := h
 simp only [List.length_map, Nat.mul_one] at hl
 subst hl
 rcases h with ⟨rfl, h0⟩ | ⟨g, cap, cur, rfl, hb, hg, hc, hcm, hs, ht⟩
 · have : l = [] := List.length_eq_zero_iff.1 h0
   subst this
   exact ⟨none, 0, rfl, NumsAt.nil _ _ _, by simp, by omega⟩
 · refine ⟨_, cap, rfl, fun h0 => ⟨g, 0, rfl, hb, block_lt hg, fun i hi => ?_⟩, hc, (by unfold Go.maxLen at hcm; omega)⟩
   have h1 : cur[i]? = some (.int .i64 (l.getD i 0)) := by
    have : (cur.toList.take (l.length * 1))[i]? = (l.map (Value.int .i64))[i]? := by rw [ht]
    rw [List.getElem?_take, if_pos (by omega), Array.getElem?_toList, List.getElem?_map, List.getElem?_eq_getElem hi] at this
    rw [this, List.getD_eq_getElem?_getD, List.getElem?_eq_getElem hi]; rfl
   rw [show (⟨g, 0 + i, none⟩ : Addr) = ⟨g, i, none⟩ by rw [Nat.zero_add]]
   simp [World.cell?, hg, h1]
def sortI (l : List Int) : List Int := l.mergeSort fun x y => decide (x ≤ y)
end Esch
namespace Go.Proofs.YtajbooppoohplaaGreatDoor
open Go.RowKit Esch Go.Shelf Go.Sort Go.Maps Go.Lib
attribute [local go_sem] Oper.semAt_some

theorem insNil (w : World) (a : Option Addr) (c : Nat) : Calls Tryz.prog 237 #[.slice a 0 c, .int .i64 0, .int .i64 0] w fun e w' => e = .returned (.tuple #[]) ∧ w' = w := by
 go_enter Tryz.func237, Tryz.ntmps237
 go_wp2_with fail
 go_loopg [6] 0 (fun g s6 wr => g = 0 ∧ s6 = .int .i64 1 ∧ wr = w)
 case atStart => exact ⟨rfl, rfl, rfl⟩
 case round =>
  obtain ⟨rfl, rfl, rfl⟩ := hrel
  exact mK96
theorem len640 (w : World) : Calls Tryz.prog 204 #[.int .u64 0] w fun e w' => ∃ n : Int, e = .returned (.int .i64 n) ∧ w' = w := by
 go_enter Tryz.func204, Tryz.ntmps204
 go_wp2_with fail
 go_ret
 exact ⟨_, rfl, rfl⟩
theorem len0 (w : World) : Calls Tryz.prog 145 #[.int .u64 0] w fun e w' => ∃ n : Int, e = .returned (.int .i64 n) ∧ w' = w := by
 go_enter Tryz.func145, Tryz.ntmps145
 go_wp2_with fail
 refine (len640 _).mono ?_
 rintro e w1 ⟨n, rfl, rfl⟩
 go_wp2_with fail
 go_ret
 exact ⟨n, rfl, rfl⟩
theorem pdqNil (w : World) (a : Option Addr) (c : Nat) (n : Int) : Calls Tryz.prog 206 #[.slice a 0 c, .int .i64 0, .int .i64 0, .int .i64 n] w fun e w' => e = .returned (.tuple #[]) ∧ w' = w := by
 go_enter Tryz.func206, Tryz.ntmps206
 go_wp2_with fail
 go_loopg [1, 2] 0 (fun g s1 s2 wr => g = 0 ∧ s1 = .int .i64 0 ∧ s2 = .int .i64 0 ∧ wr = w)
 case atStart => exact ⟨rfl, rfl, rfl, rfl⟩
 case round =>
  obtain ⟨rfl, rfl, rfl, rfl⟩ := hrel
  go_wp2_with fail
  refine (insNil _ a c).mono ?_
  rintro e w1 ⟨rfl, rfl⟩
  go_wp2_with fail
  refine bodyPost_ret (results_none rfl _ _ _) rfl ?_
  exact ⟨rfl, rfl⟩
theorem sortNil (w : World) (a : Option Addr) (c : Nat) : Calls Tryz.prog 148 #[.slice a 0 c] w fun e w' => e = .returned (.tuple #[]) ∧ w' = w := by
 go_enter Tryz.func148, Tryz.ntmps148
 go_wp2_with fail
 refine (len0 _).mono ?_
 rintro e w1 ⟨n, rfl, rfl⟩
 go_wp2_with fail
 refine (pdqNil _ a c n).mono ?_
 rintro e w1 ⟨rfl, rfl⟩
 exact mK96
theorem sortsIn (n : Nat) : AnyZI.SortsIn Tryz.prog Tryz.sorted6_ren Fence.wide n :=
  ⟨fun blk off cap ss W hH hblk hsz => callsIn_wide.2 (Any.slices_Sort_int Tryz.lays189 blk off cap ss W hH hblk hsz),
   fun p cap W => callsIn_wide.2 (sortNil W p cap)⟩
theorem keysI_in (F : Fence) (n : Nat) (h7 : F.fn 93) (hro : F.round = none) (mb : Option Nat) (w : World) :
    CallsIn F n Tryz.prog 93 #[.map mb] w fun e w' => e = .returned (.func (.func 149) #[] #[.pointer (some ⟨w.heap.size, 0, none⟩)]) ∧ w' = w.alloc (.cells #[.map mb] 171) := by
 refine callsIn_of_wp Tryz.func93 rfl h7 ?_ hro
 simp only [Tryz.ntmps93, List.size_toArray, List.length_cons, List.length_nil, Nat.reduceAdd, Nat.reduceSub, Array.replicate_succ, Array.replicate_zero, List.push_toArray, List.append_toArray, List.nil_append, List.cons_append]
 gi_wp2
 go_ret
 exact ⟨rfl, rfl⟩
theorem keysI_gives (F : Fence) (n : Nat) (h10 : F.fn 149) (hro : F.round = none) (hn : 1 ≤ n) (Bm b : Nat) (m : List (Int × InC)) (w : World) (hBm : Bm < w.heap.size) (hm : w.cell? ⟨Bm, 0, none⟩ = some (.map (some b))) (hmp : MpAt w b iV inCV m) :
    SeqGives F n Tryz.prog 149 #[.pointer (some ⟨Bm, 0, none⟩)] encZ (fun ss => ss.Perm (m.map (·.1))) m.length w := by
 intro l J W hBW hJ hY h0
 have hm := below_at hBW hm hBm
 have hmp := hmp.mod (F := none') (Mod.of_below hBW) id
 obtain ⟨es, clock, hown⟩ := hmp
 show CallsIn F n Tryz.prog 149 #[.func (.yield l) #[] #[], .pointer (some ⟨Bm, 0, none⟩)] W _
 refine callsIn_of_wp Tryz.func149 rfl h10 ?_ hro
 simp only [Tryz.ntmps149, List.size_toArray, List.length_cons, List.length_nil, Nat.reduceAdd, Nat.reduceSub, Array.replicate_succ, Array.replicate_zero, List.push_toArray, List.append_toArray, List.nil_append, List.cons_append]
 gi_wp2_with (first
   | (gi_at_range; refine wpListIn_range_map rfl _ _ rfl _ _ Tryz.underlying171 rfl hown ?_; intro w0 hrg0 e0)
   | gi_in)
 go_frame
 have hg0 : W.grownBy w0 none := by rw [e0]; exact World.grownBy_alloc _ _ _
 clear e0
 gi_loopw [3] (fun _ wr => ∃ (left : List (Int × InC)) (ss : List Int), Ranges wr b W.heap.size iV inCV m left ∧ ss.length + left.length = m.length ∧ (ss ++ left.map (·.1)).Perm (m.map (·.1)) ∧ J ss wr)
   (fun _ wr => wr.rangeLeft b W.heap.size)
 case atStart => exact ⟨m, [], hrg0, by simp, by simp, hJ [] W w0 none h0 hg0 (fun r e => by cases e)⟩
 case round =>
  obtain ⟨left, ss, hrg, hcs, hC, hJs⟩ := hrel
  have HC := Lib.hid hC
  have hlen : ss.length ≤ m.length := by omega
  have Hcs := Lib.hid hcs
  clear hC hcs
  gi_wp2_with (first
    | (gi_at_next; refine wpListIn_next_map rfl _ rfl rfl hrg ?_ ?_)
    | gi_in)
  · intro hl0
    have HL := Lib.hid hl0
    clear hl0
    gi_wp2
    go_end0
    exact ⟨⟨_, rfl⟩, ss, by have := HC.out; rw [HL.out] at this; simpa using this, hJs⟩
  · intro pre x c post w2 hl hrg2 hg2 hs2 hen
    have HL := Lib.hid hl
    have hlt : ss.length < m.length := by have := Hcs.out; rw [hl] at this; simp at this; omega
    simp only [iV, inCV] at hen ⊢
    have hJ2 : J ss w2 := hJ ss wr w2 (some W.heap.size) hJs hg2 (fun r e => by cases e; exact ⟨Nat.le_refl _, hrg.walk⟩)
    obtain ⟨fn, tmps, assign, body, hy, hR⟩ := hY ss x _ hJ2 hlt
    clear hs2 hl
    gi_wp2
    refine hR.mono ?_
    rintro e W3 ⟨rfl, hJ3, hk3⟩
    gi_wp2
    have hrg3 := hrg2.of_walks hk3
    go_roundw
    case rel => exact ⟨pre ++ post, ss ++ [x], hrg3, by have := Hcs.out; rw [HL.out] at this; simp at this ⊢; omega, by
      refine List.Perm.trans ?_ HC.out
      rw [HL.out]
      simp only [List.map_append, List.map_cons, List.append_assoc, List.singleton_append]
      exact List.Perm.append_left ss List.perm_middle.symm, hJ3⟩
    case measure => rw [hrg3.left_eq, hrg.left_eq, HL.out]; simp
def AllPost (w : World) (m : List (Int × InS)) (e : Ending) (w' : World) : Prop :=
  ∃ a c, e = .returned (.slice a (sortI (m.map (·.1))).length c) ∧ NumsAt (From w.heap.size) w' a (sortI (m.map (·.1))) ∧ CapN (sortI (m.map (·.1))).length c ∧ Below w.heap.size w w'
theorem inoAll_any (w : World) (b : Nat) (S : Nat → Prop) (s : TabS) (h : TabAt w b S s) (hl : s.m.length ≤ 100000) :
    Calls Tryz.prog 48 #[.pointer (some ⟨b, 0, none⟩)] w (AllPost w s.m) := by
 obtain ⟨sb, lt, mb, mc, c0, c1, f1, hm, sm, n1, hv, -⟩ := h
 have hk : s.m.map (·.1) = mc.map (·.1) := by rw [← hv, List.map_map]; rfl
 have hll : s.m.length = mc.length := by rw [← hv, List.length_map]
 unfold AllPost
 rw [hk]
 rw [hll] at hl
 have hB1 : Below w.heap.size w (w.alloc (.cells #[.map (some mb)] 171)) := by exact belC (Below.refl _ _)
 have hseq : SeqGives Fence.wide 2 Tryz.prog 149 #[.pointer (some ⟨w.heap.size, 0, none⟩)] encZ (fun ss => ss.Perm (mc.map (·.1))) mc.length (w.alloc (.cells #[.map (some mb)] 171)) :=
   keysI_gives Fence.wide 2 trivial rfl (by omega) w.heap.size mb mc _ (by simp) (by go_simp) (hm.mod (F := none') (Mod.of_below hB1) id)
 have cK : ∀ mb W, CallsIn Fence.wide 5 Tryz.prog 93 #[.map mb] W fun e w' => e = .returned (.func (.func 149) #[] #[.pointer (some ⟨W.heap.size, 0, none⟩)]) ∧ w' = W.alloc (.cells #[.map mb] 171) := fun mb W => keysI_in Fence.wide 5 trivial rfl mb W
 have cS := AnyZI.sorted_in Tryz.sorted6 Fence.wide 5 trivial trivial trivial trivial rfl (by omega) (sortsIn _) (enters_of Tryz.func148 (by kernel_rfl) rfl) 149 #[.pointer (some ⟨w.heap.size, 0, none⟩)] trivial (enters_of Tryz.func149 (by kernel_rfl) rfl) _ mc.length (by unfold Go.maxLen; omega) (by omega) _ hseq
 change CallsIn _ _ Tryz.prog 92 _ _ _ at cS
 have cS2 := (callsIn_wide).1 cS
 have cK2 := fun mb W => (callsIn_wide).1 (cK mb W)
 clear cS cK hseq c1 f1 hl lt hm hv hk hll
 go_enter Tryz.func48, Tryz.ntmps48
 go_wp2_with fail
 refine (cK2 _ _).mono ?_
 rintro e w1 ⟨rfl, rfl⟩
 go_wp2_with fail
 refine cS2.mono ?_
 clear cS2
 rintro e w2 ⟨v, ss, rfl, hS, hrow, -, hB⟩
 have hss : ss.mergeSort (fun x y => decide (x ≤ y)) = sortI (mc.map (·.1)) := mergeSort_of_perm_i hS
 rw [hss] at hrow
 obtain ⟨a, c, rfl, h1, h2⟩ := owns_nums (n := ss.length) (by simpa using hrow)
 go_wp2_with fail
 go_ret
 refine ⟨a, c, rfl, h1.sub (fun k _ hk => ?_), h2, hB1.trans (hB.mono (by simp))⟩
 have hk : w.heap.size + 1 ≤ k := hk
 show w.heap.size ≤ k
 omega
end Go.Proofs.YtajbooppoohplaaGreatDoor
/- package tree: stop, kind, resolve, place -/
namespace Esch
open Go Go.RowKit
structure TreeAt (w : World) (b : Nat) (S : Nat → Prop) (s : TrS) : Prop where
  sb : S b
  lt : ∀ k, S k → k < w.heap.size
  ex : ∃ ib nb S1 S2, w.cell? ⟨b, 0, none⟩ = some (.pointer (some ⟨ib, 0, none⟩)) ∧ w.cell? ⟨b, 1, none⟩ = some (.pointer (some ⟨nb, 0, none⟩)) ∧ TabAt w ib S1 s.t ∧ DirAt w nb S2 s.n ∧
    (∀ k, S1 k → S k) ∧ (∀ k, S2 k → S k) ∧ (∀ k, S1 k → ¬ S2 k) ∧ ¬ S1 b ∧ ¬ S2 b
theorem TreeAt.mod {w w' : World} {b : Nat} {S F : Nat → Prop} {s : TrS} (h : TreeAt w b S s) (hM : Mod F w w') (hF : ∀ k, S k → ¬ F k) : TreeAt w' b S s := by
 obtain ⟨sb, lt, ib, nb, S1, S2, c0, c1, ht, hn, s1, s2, d, b1, b2⟩ := h
 exact ⟨sb, fun k hk => Nat.lt_of_lt_of_le (lt k hk) hM.size, ib, nb, S1, S2, hM.at c0 (hF b sb), hM.at c1 (hF b sb), ht.mod hM (fun k hk => hF k (s1 k hk)), hn.mod hM (fun k hk => hF k (s2 k hk)), s1, s2, d, b1, b2⟩
theorem TreeAt.below' {w w' : World} {b : Nat} {S : Nat → Prop} {s : TrS} (h : TreeAt w b S s) (hB : Below w.heap.size w w') : TreeAt w' b S s := h.mod (F := none') (Mod.of_below hB) fun _ _ => id
end Esch
namespace Go.Proofs.YtajbooppoohplaaGreatDoor
open Go.RowKit Esch Go.Shelf

def pe (e : Int) : List PanicEntry := [{ v := .iface 206 (.agg #[.int .i64 e]), recovered := false }]
abbrev Stop (e : Int) : Ending := .panicked (pe e)
theorem stop_no (w : World) (e : Int) : Calls Tryz.prog 65 #[.int .i64 e, .bool false] w fun r w' => r = .returned (.tuple #[]) ∧ w' = w := by
 go_enter Tryz.func65, Tryz.ntmps65
 exact mK96
theorem stop_yes (w : World) (e : Int) : Calls Tryz.prog 65 #[.int .i64 e, .bool true] w fun r w' => r = .panicked (pe e) ∧ w' = w := by
 go_enter Tryz.func65, Tryz.ntmps65
 go_wp2_with fail
 exact ⟨rfl, rfl, rfl⟩
def ResPost {α : Type} (w : World) (r : Res α) (val : α → Value) (e : Ending) (w' : World) : Prop :=
  Below w.heap.size w w' ∧ match r with
    | .ok a => e = .returned (val a)
    | .err x => e = Stop x
theorem trKind_any (w : World) (b : Nat) (S : Nat → Prop) (s : TrS) (h : TreeAt w b S s) (i : Int) :
    Calls Tryz.prog 47 #[.pointer (some ⟨b, 0, none⟩), .int .i64 i] w fun e w' => e = .returned (.int .i64 (s.kind i)) ∧ Below w.heap.size w w' := by
 obtain ⟨sb, lt, ib, nb, S1, S2, c0, c1, ht, hn, s1, s2, d, b1, b2⟩ := h
 have hs := inoStat_any w ib S1 s.t ht i
 unfold TrS.kind
 obtain ⟨⟨x0, x1, x2, x3, x4, xp⟩, hx⟩ : ∃ x, x = s.t.at i := ⟨_, rfl⟩
 rw [← hx] at hs ⊢
 simp only [statV] at hs ⊢
 clear hx ht hn
 go_enter Tryz.func47, Tryz.ntmps47
 go_wp2_with fail
 refine hs.mono ?_
 clear hs
 rintro e W2 ⟨rfl, hB2⟩
 have hz := hB2.size
 go_wp2_with fail
 go_ret
 exact ⟨rfl, by exact belC hB2⟩
def ResolveRel (w : World) (s : TrS) (l : List Nm) (g : Nat) (v7 v23 : Value) (wr : World) : Prop :=
  ∃ (i : Nat) (d : Int), g = l.length - i ∧ i ≤ l.length ∧ v7 = .int .i64 d ∧ v23 = .int .i64 i ∧ s.res 1 l = s.res d (l.drop i) ∧ Below w.heap.size w wr
theorem trResolve_any (w : World) (b : Nat) (S : Nat → Prop) (s : TrS) (h : TreeAt w b S s) (p : Nm) :
    Calls Tryz.prog 64 #[.pointer (some ⟨b, 0, none⟩), .string (bs p)] w (ResPost w (s.resolve p) (Value.int .i64)) := by
 have hsp := split_any w p
 have hno := stop_no
 have hys := stop_yes
 have hkd := fun W hW i => trKind_any W b S s hW i
 have H := Lib.hid h
 unfold TrS.resolve
 cases hr : namesOf p with
 | none =>
   rw [hr] at hsp
   clear h hr
   go_enter Tryz.func64, Tryz.ntmps64
   go_wp2_with fail
   refine hsp.mono ?_
   clear hsp
   rintro e w1 ⟨hB, rfl⟩
   go_wp2_with fail
   refine (hys _ _).mono ?_
   rintro e w2 ⟨rfl, rfl⟩
   go_wp2_with fail
   exact ⟨rfl, hB, rfl⟩
 | some l =>
   rw [hr] at hsp
   have Hs8 := Lib.hid (namesOf_some hr).1
   obtain ⟨r, hrr⟩ : ∃ r, r = s.res 1 l := ⟨_, rfl⟩
   show Calls Tryz.prog 64 #[.pointer (some ⟨b, 0, none⟩), .string (bs p)] w (ResPost w (s.res 1 l) (Value.int .i64))
   rw [← hrr]
   have HR := Lib.hid hrr
   clear h hr hrr
   go_enter Tryz.func64, Tryz.ntmps64
   go_wp2_with fail
   refine hsp.mono ?_
   clear hsp
   rintro e w1 ⟨hB, a, c, rfl, hN, hC⟩
   have HN := Lib.hid hN
   have HB := Lib.hid hB
   clear hN hC hB
   go_wp2_with fail
   refine (hno _ _).mono ?_
   rintro e w2 ⟨rfl, rfl⟩
   go_wp2_with fail
   go_loopg [7, 23] l.length (fun g s7 s23 wr => ResolveRel w2 s l g s7 s23 wr)
   case atStart => exact ⟨0, 1, rfl, Nat.zero_le _, rfl, rfl, rfl, Below.refl _ _⟩
   case round =>
     obtain ⟨i, d, rfl, hil, rfl, rfl, hres, hB'⟩ := hrel
     have HB' := Lib.hid hB'
     have Hres := Lib.hid hres
     clear hB' hres
     by_cases hlt : i < l.length
     · obtain ⟨bk, off, rfl, -, hbk, hcell⟩ := HN.out (by omega)
       obtain ⟨nm, hnm⟩ : ∃ nm, nm = l.getD i [] := ⟨_, rfl⟩
       have e0 := below_at HB'.out (hcell i hlt) hbk
       rw [← hnm] at e0
       have hdr : l.drop i = nm :: l.drop (i + 1) := by
         rw [List.drop_eq_getElem_cons hlt, hnm, List.getD_eq_getElem?_getD, List.getElem?_eq_getElem hlt]; rfl
       have hres := Hres.out
       rw [hdr] at hres
       have hres : s.res 1 l = if s.kind d ≠ 1 then .err 62 else match s.n.find d nm with
         | none => .err 60
         | some j => s.res j (l.drop (i + 1)) := hres
       have hT := H.out.below' (HB.out.trans (HB'.out.mono HB.out.size))
       have hk1 := hkd wr hT d
       have hii : (0 : Int) ≤ i ∧ (i : Int) < l.length := by omega
       have HT := Lib.hid hT
       clear hcell hnm hdr hT Hres
       by_cases hkk : s.kind d = 1
       rotate_left 1
       · rw [if_pos hkk] at hres
         have hkk2 : (s.kind d != 1) = true := by simpa using hkk
         generalize s.kind d = kk at hk1 hkk2
         have HE := Lib.hid (HR.out.trans hres)
         clear hkk hres
         go_wp2_with fail
         refine hk1.mono ?_
         clear hk1
         rintro e w3 ⟨rfl, hB3⟩
         go_wp2_with fail
         refine (hys _ _).mono ?_
         rintro e w4 ⟨rfl, rfl⟩
         go_wp2_with fail
         refine ⟨rfl, HB.out.trans (HB'.out.trans (hB3.mono HB'.out.size) |>.mono HB.out.size), ?_⟩
         rw [HE.out]
       · rw [if_neg (by simpa using hkk)] at hres
         rw [hkk] at hk1
         clear hkk
         obtain ⟨sb, lt, ib, nb, S1, S2, c0, c1, ht, hn, s1, s2, dd, b1, b2⟩ := HT.out
         have hfd := fun W hW => dirFind_any W nb S2 s.n hW d nm
         have hlb := cell_lt c1
         have HDN := Lib.hid hn
         have hlw : wr.heap.size ≤ wr.heap.size := Nat.le_refl _
         clear ht hn s1 s2 dd b1 b2 lt sb c0
         cases hf : s.n.find d nm with
         | none =>
           rw [hf] at hres hfd
           have HE := Lib.hid (HR.out.trans hres)
           clear hres hf
           go_wp2_with fail
           refine hk1.mono ?_
           clear hk1
           rintro e w3 ⟨rfl, hB3⟩
           have HB3 := Lib.hid hB3
           have c2 := below_at hB3 c1 hlb
           clear hB3 c1
           go_wp2_with fail
           refine (hno _ _).mono ?_
           rintro e w4 ⟨rfl, rfl⟩
           go_wp2_with fail
           refine (hfd _ (HDN.out.below' HB3.out)).mono ?_
           rintro e w5 ⟨rfl, rfl⟩
           go_wp2_with fail
           refine (hys _ _).mono ?_
           rintro e w6 ⟨rfl, rfl⟩
           go_wp2_with fail
           refine ⟨rfl, HB.out.trans (HB'.out.trans (HB3.out.mono HB'.out.size) |>.mono HB.out.size), ?_⟩
           rw [HE.out]
         | some j =>
           rw [hf] at hres hfd
           have HE := Lib.hid hres
           clear hres hf
           go_wp2_with fail
           refine hk1.mono ?_
           clear hk1
           rintro e w3 ⟨rfl, hB3⟩
           have HB3 := Lib.hid hB3
           have c2 := below_at hB3 c1 hlb
           clear hB3 c1
           go_wp2_with fail
           refine (hno _ _).mono ?_
           rintro e w4 ⟨rfl, rfl⟩
           go_wp2_with fail
           refine (hfd _ (HDN.out.below' HB3.out)).mono ?_
           rintro e w5 ⟨rfl, rfl⟩
           go_wp2_with fail
           refine (hno _ _).mono ?_
           rintro e w6 ⟨rfl, rfl⟩
           go_wp2_with fail
           have hwr : wrap64 ((i : Int) + 1) = ((i + 1 : Nat) : Int) := by unfold wrap64; have := Hs8.out; omega
           go_roundg (l.length - (i + 1))
           case measure => omega
           case rel => exact ⟨i + 1, j, rfl, by omega, rfl, by rw [hwr], HE.out, HB'.out.trans (HB3.out.mono HB'.out.size)⟩
     · obtain rfl : i = l.length := by omega
       have hres := Hres.out
       rw [List.drop_length] at hres
       have HE := Lib.hid (HR.out.trans hres)
       clear hres Hres hlt
       go_wp2_with fail
       go_ret
       refine ⟨HB.out.trans (HB'.out.mono HB.out.size), ?_⟩
       rw [HE.out]
       rfl
end Go.Proofs.YtajbooppoohplaaGreatDoor
/- package tree: place -/
namespace Go.Proofs.YtajbooppoohplaaGreatDoor
open Go.RowKit Esch Go.Shelf

def spotV (x : SpotS) : Value := .agg #[.int .i64 x.dir, .string (bs x.name), .int .i64 x.ino]
theorem trPlace_any (w : World) (b : Nat) (S : Nat → Prop) (s : TrS) (h : TreeAt w b S s) (p : Nm) (ofRoot : Int) :
    Calls Tryz.prog 175 #[.pointer (some ⟨b, 0, none⟩), .string (bs p), .int .i64 ofRoot] w (ResPost w (s.place p ofRoot) spotV) := by
 have hgd := fun W => good_any W p
 have hup := fun W => up_any W p
 have hno := stop_no
 have hys := stop_yes
 have hkd := fun W hW i => trKind_any W b S s hW i
 obtain ⟨W1, hW1⟩ : ∃ W1, W1 = w.alloc (.cells #[.int .i64 0, .string ⟨#[]⟩, .int .i64 0] 257) := ⟨_, rfl⟩
 have hB1 : Below w.heap.size w W1 := by rw [hW1]; exact belC (Below.refl _ _)
 have r0 : W1.cell? ⟨w.heap.size, 0, none⟩ = some (.int .i64 0) := by rw [hW1]; go_simp
 have r1 : W1.cell? ⟨w.heap.size, 1, none⟩ = some (.string ⟨#[]⟩) := by rw [hW1]; go_simp
 have r2 : W1.cell? ⟨w.heap.size, 2, none⟩ = some (.int .i64 0) := by rw [hW1]; go_simp
 have f0 : W1.frozen? ⟨w.heap.size, 0, none⟩ = false := by rw [hW1]; go_simp
 have f1 : W1.frozen? ⟨w.heap.size, 1, none⟩ = false := by rw [hW1]; go_simp
 have f2 : W1.frozen? ⟨w.heap.size, 2, none⟩ = false := by rw [hW1]; go_simp
 have hl1 : w.heap.size < W1.heap.size := cell_lt r0
 have H := Lib.hid (h.below' hB1)
 have HW1 := Lib.hid hW1
 have HB1 := Lib.hid hB1
 have hpl : s.place p ofRoot = match namesOf p with
   | none => .err 11
   | some l => if l = [] then .err ofRoot else (s.res 1 l.dropLast).bind fun d => if s.kind d ≠ 1 then .err 62 else .ok ⟨d, l.getLastD [], (s.n.find d (l.getLastD [])).getD 0⟩ := rfl
 cases hr : namesOf p with
 | none =>
   rw [hr] at hpl hgd
   rw [hpl]
   clear h hr hpl hW1 hB1
   go_enter Tryz.func175, Tryz.ntmps175
   go_wp2_with fail
   rw [← HW1.out]
   refine (hgd _).mono ?_
   clear hgd
   rintro e w1 ⟨rfl, hB⟩
   go_wp2_with fail
   refine (hys _ _).mono ?_
   rintro e w9 ⟨rfl, rfl⟩
   go_wp2_with fail
   exact ⟨rfl, HB1.out.trans (hB.mono HB1.out.size), rfl⟩
 | some l =>
   have hsn := namesOf_some hr
   rw [hr] at hpl hgd hup
   by_cases hl : l = []
   · have hpl2 : s.place p ofRoot = .err ofRoot := by rw [hpl]; simp [hl]
     subst hl
     rw [hpl2]
     clear h hr hpl hW1 hB1 hsn hpl2
     go_enter Tryz.func175, Tryz.ntmps175
     go_wp2_with fail
     rw [← HW1.out]
     refine (hgd _).mono ?_
     clear hgd
     rintro e w1 ⟨rfl, hB⟩
     go_wp2_with fail
     refine (hno _ _).mono ?_
     rintro e w2 ⟨rfl, rfl⟩
     go_wp2_with fail
     refine (hup _).mono ?_
     clear hup
     rintro e w3 ⟨hB3, rfl⟩
     go_wp2_with fail
     refine (hys _ _).mono ?_
     rintro e w9 ⟨rfl, rfl⟩
     go_wp2_with fail
     exact ⟨rfl, HB1.out.trans ((hB.trans (hB3.mono hB.size)).mono HB1.out.size), rfl⟩
   · obtain ⟨dl, hdl⟩ : ∃ x, x = l.dropLast := ⟨_, rfl⟩
     obtain ⟨nm, hnm⟩ : ∃ x, x = l.getLastD [] := ⟨_, rfl⟩
     have hupd : upOf (some l) = some (dl, nm) := by unfold upOf; simp [hl, hdl, hnm]
     have hpl2 : s.place p ofRoot = (s.res 1 dl).bind fun d => if s.kind d ≠ 1 then .err 62 else .ok ⟨d, nm, (s.n.find d nm).getD 0⟩ := by rw [hpl]; simp [hl, hdl, hnm]
     rw [hupd] at hup
     have hres := fun W hW => trResolve_any W b S s hW (pathL dl)
     have hrs : s.resolve (pathL dl) = s.res 1 dl := by
       unfold TrS.resolve
       rw [namesOf_path (l := dl) (by rw [hdl, List.length_dropLast]; have := hsn.1; omega) (fun a ha => hsn.2.1 a (List.dropLast_subset l (by rw [← hdl]; exact ha)))]
     rw [hrs] at hres
     rw [hpl2]
     have hup2 : ∀ W, Calls Tryz.prog 214 #[.string (bs p)] W fun e w' => Below W.heap.size W w' ∧ e = .returned (.tuple #[.string (bs (pathL dl)), .string (bs nm), .bool true]) := hup
     clear hup
     have hup := hup2
     clear hup2
     generalize pathL dl = up at hup hres
     cases hrd : s.res 1 dl with
     | err x =>
       rw [hrd] at hres
       show Calls Tryz.prog 175 _ w (ResPost w (.err x) spotV)
       clear h hr hpl hW1 hB1 hsn hpl2 hupd hrs hrd hdl hnm hl
       go_enter Tryz.func175, Tryz.ntmps175
       go_wp2_with fail
       rw [← HW1.out]
       refine (hgd _).mono ?_
       clear hgd
       rintro e w1 ⟨rfl, hB⟩
       go_wp2_with fail
       refine (hno _ _).mono ?_
       rintro e w2 ⟨rfl, rfl⟩
       go_wp2_with fail
       refine (hup _).mono ?_
       clear hup
       rintro e w3 ⟨hB3, rfl⟩
       have HB13 := Lib.hid (hB.trans (hB3.mono hB.size))
       have HB3 := Lib.hid (HB1.out.trans (HB13.out.mono HB1.out.size))
       have H3 := Lib.hid (H.out.below' HB13.out)
       clear hB hB3
       go_wp2_with fail
       refine (hno _ _).mono ?_
       rintro e w3b ⟨rfl, rfl⟩
       go_wp2_with fail
       refine (hres _ H3.out).mono ?_
       clear hres
       rintro e w4 ⟨hB4, rfl⟩
       go_wp2_with fail
       exact ⟨rfl, HB3.out.trans (hB4.mono HB3.out.size), rfl⟩
     | ok d =>
       rw [hrd] at hres
       have hgo : ((Res.ok d : Res Int).bind fun d => if s.kind d ≠ 1 then Res.err 62 else Res.ok (⟨d, nm, (s.n.find d nm).getD 0⟩ : SpotS)) = if s.kind d ≠ 1 then .err 62 else .ok ⟨d, nm, (s.n.find d nm).getD 0⟩ := rfl
       rw [hgo]
       clear h hr hpl hW1 hB1 hsn hpl2 hupd hrs hrd hdl hnm hl hgo
       by_cases hkk : s.kind d = 1
       rotate_left 1
       · rw [if_pos hkk]
         have hkk2 : (s.kind d != 1) = true := by simpa using hkk
         have hkd2 := fun W hW => hkd W hW d
         generalize s.kind d = kk at hkd2 hkk2
         clear hkd hkk
         go_enter Tryz.func175, Tryz.ntmps175
         go_wp2_with fail
         rw [← HW1.out]
         refine (hgd _).mono ?_
         clear hgd
         rintro e w1 ⟨rfl, hB⟩
         go_wp2_with fail
         refine (hno _ _).mono ?_
         rintro e w2 ⟨rfl, rfl⟩
         go_wp2_with fail
         refine (hup _).mono ?_
         clear hup
         rintro e w3 ⟨hB3, rfl⟩
         have HB13 := Lib.hid (hB.trans (hB3.mono hB.size))
         have HB3 := Lib.hid (HB1.out.trans (HB13.out.mono HB1.out.size))
         have H3 := Lib.hid (H.out.below' HB13.out)
         clear hB hB3
         go_wp2_with fail
         refine (hno _ _).mono ?_
         rintro e w3b ⟨rfl, rfl⟩
         go_wp2_with fail
         refine (hres _ H3.out).mono ?_
         clear hres
         rintro e w4 ⟨hB4, rfl⟩
         have HB4 := Lib.hid hB4
         have hz4 := hB4.size
         clear hB4
         go_wp2_with fail
         refine (hkd2 _ ((H3.out.below' HB4.out).below' (by exact belC (Below.refl _ _)))).mono ?_
         rintro e w5 ⟨rfl, hB5⟩
         go_wp2_with fail
         refine (hys _ _).mono ?_
         rintro e w9 ⟨rfl, rfl⟩
         go_wp2_with fail
         refine ⟨rfl, HB3.out.trans ((HB4.out.trans ?_).mono HB3.out.size), rfl⟩
         exact (show Below w4.heap.size w4 (w4.alloc (.cells #[.int .i64 d, .string (bs nm), .int .i64 0] 257)) by exact belC (Below.refl _ _)).trans (hB5.mono (by simp)) |>.mono HB4.out.size
       · rw [if_neg (by simpa using hkk)]
         have hkd2 := fun W hW => hkd W hW d
         rw [hkk] at hkd2
         obtain ⟨ino, hino⟩ : ∃ ino, ino = (s.n.find d nm).getD 0 := ⟨_, rfl⟩
         rw [← hino]
         have HINO := Lib.hid hino
         clear hkd hkk hino
         go_enter Tryz.func175, Tryz.ntmps175
         go_wp2_with fail
         rw [← HW1.out]
         refine (hgd _).mono ?_
         clear hgd
         rintro e w1 ⟨rfl, hB⟩
         go_wp2_with fail
         refine (hno _ _).mono ?_
         rintro e w2 ⟨rfl, rfl⟩
         go_wp2_with fail
         refine (hup _).mono ?_
         clear hup
         rintro e w3 ⟨hB3, rfl⟩
         have HB13 := Lib.hid (hB.trans (hB3.mono hB.size))
         have HB3 := Lib.hid (HB1.out.trans (HB13.out.mono HB1.out.size))
         have H3 := Lib.hid (H.out.below' HB13.out)
         clear hB hB3
         go_wp2_with fail
         refine (hno _ _).mono ?_
         rintro e w3b ⟨rfl, rfl⟩
         go_wp2_with fail
         refine (hres _ H3.out).mono ?_
         clear hres
         rintro e w4 ⟨hB4, rfl⟩
         have HB4 := Lib.hid hB4
         have hz4 := hB4.size
         clear hB4
         go_wp2_with fail
         obtain ⟨W5, hW5⟩ : ∃ W5, W5 = w4.alloc (.cells #[.int .i64 d, .string (bs nm), .int .i64 0] 257) := ⟨_, rfl⟩
         have hB5 : Below w4.heap.size w4 W5 := by rw [hW5]; exact belC (Below.refl _ _)
         have k0 : W5.cell? ⟨w4.heap.size, 0, none⟩ = some (.int .i64 d) := by rw [hW5]; go_simp
         have k1 : W5.cell? ⟨w4.heap.size, 1, none⟩ = some (.string (bs nm)) := by rw [hW5]; go_simp
         have k2 : W5.cell? ⟨w4.heap.size, 2, none⟩ = some (.int .i64 0) := by rw [hW5]; go_simp
         have g2 : W5.frozen? ⟨w4.heap.size, 2, none⟩ = false := by rw [hW5]; go_simp
         rw [← hW5]
         clear hW5
         refine (hkd2 W5 ((H3.out.below' HB4.out).below' hB5)).mono ?_
         clear hkd2
         rintro e W6 ⟨rfl, hB6⟩
         have hl5 : w4.heap.size < W5.heap.size := cell_lt k0
         have k0 := below_at hB6 k0 hl5
         have k1 := below_at hB6 k1 hl5
         have k2 := below_at hB6 k2 hl5
         have g2 := (hB6.frozen (p := ⟨w4.heap.size, 2, none⟩) hl5).trans g2
         have hB46 : Below w4.heap.size w4 W6 := hB5.trans (hB6.mono hB5.size)
         have hT6 := (H3.out.below' HB4.out).below' hB46
         have hB16 : Below W1.heap.size W1 W6 := HB13.out.trans ((HB4.out.trans (hB46.mono HB4.out.size)).mono HB13.out.size)
         have r0 := below_at hB16 r0 hl1
         have r1 := below_at hB16 r1 hl1
         have r2 := below_at hB16 r2 hl1
         have f0 := (hB16.frozen (p := ⟨w.heap.size, 0, none⟩) hl1).trans f0
         have f1 := (hB16.frozen (p := ⟨w.heap.size, 1, none⟩) hl1).trans f1
         have f2 := (hB16.frozen (p := ⟨w.heap.size, 2, none⟩) hl1).trans f2
         have hne : w.heap.size ≠ w4.heap.size := by have h1 := HB13.out.size; have h2 := HB4.out.size; have := HB1.out.size; omega
         have hw4 : w.heap.size ≤ w4.heap.size := by have h1 := HB13.out.size; have h2 := HB4.out.size; have := HB1.out.size; omega
         have hl6 := cell_lt k0
         have hlr := cell_lt r0
         obtain ⟨sb, lt, ib, nb, S1, S2, c0, c1, ht, hn, s1, s2, dd, b1, b2⟩ := hT6
         have hfd := dirFind_any W6.drew nb S2 s.n (hn.below' (by exact belC (Below.refl _ _))) d nm
         have hbl := cell_lt c1
         have hbn4 : b ≠ w4.heap.size := fun e => by
           have h1 := (H3.out.below' HB4.out).lt b (H3.out.below' HB4.out).sb
           omega
         have q0 : W6.drew.cell? ⟨b, 1, none⟩ = some (.pointer (some ⟨nb, 0, none⟩)) := c1
         have q1 : W6.drew.cell? ⟨w4.heap.size, 0, none⟩ = some (.int .i64 d) := k0
         have HB16 := Lib.hid (HB1.out.trans (hB16.mono HB1.out.size))
         rw [← HINO.out] at hfd
         generalize (s.n.find d nm).isSome = iss at hfd
         clear hB5 hB6 hB46 hB16 ht hn s1 s2 dd b1 b2 lt c0 H3 HB4
         go_wp2_with fail
         refine (hno _ _).mono ?_
         rintro e w9 ⟨rfl, rfl⟩
         go_wp2_with fail
         have hKd : w9.drew.cell? ⟨b, 1, none⟩ = some (.pointer (some ⟨nb, 0, none⟩)) ∧ w9.drew.cell? ⟨w4.heap.size, 0, none⟩ = some (.int .i64 d) := ⟨q0, q1⟩
         have hKe : ∀ v, (w9.setCell ⟨w4.heap.size, 2, none⟩ v).drew.cell? ⟨b, 1, none⟩ = some (.pointer (some ⟨nb, 0, none⟩)) ∧ (w9.setCell ⟨w4.heap.size, 2, none⟩ v).drew.cell? ⟨w4.heap.size, 0, none⟩ = some (.int .i64 d) := fun v => ⟨by go_simp, by go_simp⟩
         go_region_held3 (fun W' => W'.cell? ⟨b, 1, none⟩ = some (.pointer (some ⟨nb, 0, none⟩)) ∧ W'.cell? ⟨w4.heap.size, 0, none⟩ = some (.int .i64 d))
           (first
             | with_reducible exact hKd
             | with_reducible exact hKe _)
           (first
             | (go_at_call 115; (with_reducible refine hfd.mono ?_); rintro e w10 ⟨rfl, rfl⟩))
         clear hKd hKe hfd
         have hz16 := HB16.out.size
         go_wp2_with fail
         refine bodyPost_ret (v := .agg #[.int .i64 d, .string (bs nm), .int .i64 ino]) (by simp [results, Tryz.results175, go_sem, *]) rfl ?_
         exact ⟨by exact belC HB16.out, rfl⟩
end Go.Proofs.YtajbooppoohplaaGreatDoor
/- package tree: tries, a call that a panic of the tree's own may end -/
namespace Go.Proofs.YtajbooppoohplaaGreatDoor
open Go.RowKit Esch Go.Shelf

def peR (e : Int) : List PanicEntry := [{ v := .iface 206 (.agg #[.int .i64 e]), recovered := true }]
theorem tries1_idle (p : Addr) (w : World) : CallsD Tryz.prog 113 #[.pointer (some p)] .returning w fun e u' w' => e = .returned (.tuple #[]) ∧ u' = .returning ∧ w' = w := by
 refine callsD_of_wpS Tryz.func113 rfl fun c₀ cs hu => ?_
 apply wpS_seq
 apply wpS_region
 simp [wpOpsS, go_sem, recoverD, hu, Tryz.ntmps113, Exit.thenS, Array.replicate_succ, Array.replicate_zero, List.push_toArray, List.append_toArray]
 refine wpS_of_wp ?_
 have hnil : ∀ w : World, (binOp BinOp.eql 20 .nilIface .nilIface).run Tryz.prog w = .ok (.bool true) w := fun _ => by kernel_rfl
 go_wp2
 cases c₀
 simp_all [bodyPostS, results, Tryz.results113]
theorem tries1_panic (b : Nat) (e : Int) (v0 : Value) (w : World) (hc : w.cell? ⟨b, 0, none⟩ = some v0) (hz : w.frozen? ⟨b, 0, none⟩ = false) :
    CallsD Tryz.prog 113 #[.pointer (some ⟨b, 0, none⟩)] (.panicking (pe e)) w fun r u' w' =>
      r = .returned (.tuple #[]) ∧ u' = .panicking (peR e) ∧ w' = (w.setCell ⟨b, 0, none⟩ (.int .i64 e)).alloc (.cells #[.int .i64 e] 206) := by
  have hl := cell_lt hc
  refine callsD_of_wpS Tryz.func113 rfl fun c₀ cs hu => ?_
  unfold pe at hu
  apply wpS_seq
  apply wpS_region
  simp [wpOpsS, go_sem, recoverD, hu, Tryz.ntmps113, Exit.thenS, Array.replicate_succ, Array.replicate_zero, List.push_toArray, List.append_toArray]
  refine wpS_of_wp ?_
  have hta : ∀ w : World, (Instr.typeAssert (.iface 206 (.agg #[.int .i64 e])) 20 206 true).run Tryz.prog w = .ok (.tuple #[.agg #[.int .i64 e], .bool true]) w := fun _ => by kernel_rfl
  go_wp2
  cases c₀
  simp_all [bodyPostS, results, Tryz.results113, peR]
/-- what a call inside 'tries' may come to -/
def DoPost (R : Int → World → Prop) (e : Ending) (w' : World) : Prop := (e = .returned (.tuple #[]) ∧ R 0 w') ∨ ∃ x, e = .panicked (pe x) ∧ R x w'
theorem tries_any (w : World) (b g : Nat) (lb : Array Value) (R : Int → World → Prop) (eg : ∀ args w, (callFunc g args).run Tryz.prog w = .ok (.enter g args) w)
    (hdo : Calls Tryz.prog g lb (w.alloc (.cells #[.int .i64 0] 37)) (DoPost R))
    (hR : ∀ x W, R x W → W.cell? ⟨w.heap.size, 0, none⟩ = some (.int .i64 0) ∧ W.frozen? ⟨w.heap.size, 0, none⟩ = false) :
    Calls Tryz.prog 62 #[.pointer (some ⟨b, 0, none⟩), .func (.func g) #[] lb] w fun e w' => ∃ x W, e = .returned (.int .i64 x) ∧ R x W ∧ Mod (· = w.heap.size) W w' := by
 have hmf : ∀ (fn : Fn) (first cap : Array Value) (w : World), (Instr.makeFunc fn first cap).run Tryz.prog w = .ok (.func fn first cap) w := fun _ _ _ _ => rfl
 go_enter_defers Tryz.func62, Tryz.ntmps62
 go_wp2_with fail
 refine hdo.mono ?_
 clear hdo
 rintro e W (⟨rfl, hr⟩ | ⟨x, rfl, hr⟩)
 · obtain ⟨c0, f0⟩ := hR _ _ hr
   have Hr := Lib.hid hr
   have hl := cell_lt c0
   clear hr
   go_wp2_with fail
   refine leaves_cons (f := 113) (args := #[.pointer (some ⟨w.heap.size, 0, none⟩)]) (by simp) (by simp [go_sem]) ?_
   refine (tries1_idle ⟨w.heap.size, 0, none⟩ _).mono ?_
   rintro e u' w'' ⟨rfl, rfl, rfl⟩
   have hrun : (results Tryz.f62 #[Value.pointer (some ⟨b, 0, none⟩), Value.func (Fn.func g) #[] lb, undef, undef, Value.pointer (some ⟨w.heap.size, 0, none⟩), Value.pointer (some ⟨b, 0, none⟩), Value.bool false, Value.func (Fn.func 113) #[] #[Value.pointer (some ⟨w.heap.size, 0, none⟩)], Value.func (Fn.func g) #[] lb, Value.tuple #[]]).run Tryz.prog (W.setCell ⟨w.heap.size, 0, none⟩ (.int .i64 0)) = .ok (.int .i64 0) (W.setCell ⟨w.heap.size, 0, none⟩ (.int .i64 0)) := by simp [results, Tryz.results62, go_sem, *]
   refine ⟨_, hrun, 0, W, rfl, Hr.out, (Mod.refl (· = w.heap.size) W).setCellAt (fun _ => rfl) _⟩
 · obtain ⟨c0, f0⟩ := hR _ _ hr
   have Hr := Lib.hid hr
   have hl := cell_lt c0
   clear hr
   go_wp2_with fail
   refine leaves_cons (f := 113) (args := #[.pointer (some ⟨w.heap.size, 0, none⟩)]) (by simp) (by simp [go_sem]) ?_
   refine (tries1_panic w.heap.size x _ W c0 f0).mono ?_
   rintro e u' w'' ⟨rfl, rfl, rfl⟩
   have hrun : (results Tryz.f62 #[Value.pointer (some ⟨b, 0, none⟩), Value.func (Fn.func g) #[] lb, undef, undef, Value.pointer (some ⟨w.heap.size, 0, none⟩), Value.pointer (some ⟨b, 0, none⟩), Value.bool false, Value.func (Fn.func 113) #[] #[Value.pointer (some ⟨w.heap.size, 0, none⟩)], Value.func (Fn.func g) #[] lb, undef]).run Tryz.prog ((W.setCell ⟨w.heap.size, 0, none⟩ (.int .i64 x)).alloc (.cells #[.int .i64 x] 206)) = .ok (.int .i64 x) ((W.setCell ⟨w.heap.size, 0, none⟩ (.int .i64 x)).alloc (.cells #[.int .i64 x] 206)) := by simp [results, Tryz.results62, go_sem, *]
   refine ⟨_, hrun, x, W, rfl, Hr.out, ((Mod.refl (· = w.heap.size) W).setCellAt (fun _ => rfl) _).alloc _⟩
end Go.Proofs.YtajbooppoohplaaGreatDoor
/- package tree: New, full, add, drop -/
namespace Esch
open Go Go.RowKit
/-- the inodes alone, or the names alone, were written -/
theorem TreeAt.tab {w w' : World} {b ib nb : Nat} {S S1 S2 : Nat → Prop} {s : TrS} {t' : TabS} (sb : S b) (lt : ∀ k, S k → k < w.heap.size) (c0 : w.cell? ⟨b, 0, none⟩ = some (.pointer (some ⟨ib, 0, none⟩))) (c1 : w.cell? ⟨b, 1, none⟩ = some (.pointer (some ⟨nb, 0, none⟩)))
    (hn : DirAt w nb S2 s.n) (s1 : ∀ k, S1 k → S k) (s2 : ∀ k, S2 k → S k) (d : ∀ k, S1 k → ¬ S2 k) (b1 : ¬ S1 b) (b2 : ¬ S2 b) (ht : TabAt w' ib S1 t') (hM : Mod S1 w w') : TreeAt w' b S ⟨t', s.n⟩ ∧ Mod S w w' :=
  ⟨⟨sb, fun k hk => Nat.lt_of_lt_of_le (lt k hk) hM.size, ib, nb, S1, S2, hM.at c0 b1, hM.at c1 b1, ht, hn.mod hM (fun k hk h => d k h hk), s1, s2, d, b1, b2⟩, hM.mono fun k _ hk => s1 k hk⟩
theorem TreeAt.dir {w w' : World} {b ib nb : Nat} {S S1 S2 : Nat → Prop} {s : TrS} {n' : DirS} (sb : S b) (lt : ∀ k, S k → k < w.heap.size) (c0 : w.cell? ⟨b, 0, none⟩ = some (.pointer (some ⟨ib, 0, none⟩))) (c1 : w.cell? ⟨b, 1, none⟩ = some (.pointer (some ⟨nb, 0, none⟩)))
    (ht : TabAt w ib S1 s.t) (s1 : ∀ k, S1 k → S k) (s2 : ∀ k, S2 k → S k) (d : ∀ k, S1 k → ¬ S2 k) (b1 : ¬ S1 b) (b2 : ¬ S2 b) (hn : DirAt w' nb S2 n') (hM : Mod S2 w w') : TreeAt w' b S ⟨s.t, n'⟩ ∧ Mod S w w' :=
  ⟨⟨sb, fun k hk => Nat.lt_of_lt_of_le (lt k hk) hM.size, ib, nb, S1, S2, hM.at c0 b2, hM.at c1 b2, ht.mod hM (fun k hk h => d k hk h), hn, s1, s2, d, b1, b2⟩, hM.mono fun k _ hk => s2 k hk⟩
end Esch
namespace Go.Proofs.YtajbooppoohplaaGreatDoor
open Go.RowKit Esch Go.Shelf

theorem trNew_any (w : World) : Calls Tryz.prog 26 #[] w fun e w' => ∃ b, e = .returned (.pointer (some ⟨b, 0, none⟩)) ∧ TreeAt w' b (fun k => w.heap.size ≤ k ∧ k < w'.heap.size) tr0 ∧ Below w.heap.size w w' := by
 go_enter Tryz.func26, Tryz.ntmps26
 go_wp2_with fail
 refine (inoNew_any _).mono ?_
 rintro e w1 ⟨ib, rfl, ht, hB1⟩
 have HT := Lib.hid ht
 have HB1 := Lib.hid hB1
 clear ht hB1
 go_wp2_with fail
 refine (dirNew_any _).mono ?_
 rintro e w2 ⟨nb, rfl, hn, hB2⟩
 have HN := Lib.hid hn
 have HB2 := Lib.hid hB2
 clear hn hB2
 go_wp2_with fail
 go_ret
 have h1 := HB1.out.size
 have h2 := HB2.out.size
 have hBn : Below w2.heap.size w2 (w2.alloc (.cells #[.pointer (some ⟨ib, 0, none⟩), .pointer (some ⟨nb, 0, none⟩)] 108)) := by exact belC (Below.refl _ _)
 have hB : Below w.heap.size w (w2.alloc (.cells #[.pointer (some ⟨ib, 0, none⟩), .pointer (some ⟨nb, 0, none⟩)] 108)) := (HB1.out.trans (HB2.out.mono h1)).trans (hBn.mono (by omega))
 refine ⟨w2.heap.size, rfl, ⟨⟨by omega, by simp⟩, fun k hk => hk.2, ib, nb, _, _, by go_simp, by go_simp, (HT.out.below' HB2.out).below' hBn, HN.out.below' hBn, fun k hk => ⟨hk.1, ?_⟩, fun k hk => ⟨?_, ?_⟩, fun k hk hk2 => ?_, fun hk => ?_, fun hk => ?_⟩, hB⟩
 · have := hk.2; simp only [World.size_alloc]; omega
 · have := hk.1; omega
 · have := hk.2; simp only [World.size_alloc]; omega
 · have := hk.2; have := hk2.1; omega
 · have := hk.2; omega
 · have := hk.2; omega
theorem trFull_any (w : World) (b : Nat) (S : Nat → Prop) (s : TrS) (h : TreeAt w b S s) (d : Int) :
    Calls Tryz.prog 179 #[.pointer (some ⟨b, 0, none⟩), .int .i64 d] w fun e w' => e = .returned (.bool (decide (64 ≤ s.n.count d))) ∧ w' = w := by
 obtain ⟨sb, lt, ib, nb, S1, S2, c0, c1, ht, hn, s1, s2, dd, b1, b2⟩ := h
 have hc := dirCount_any w nb S2 s.n hn d
 generalize s.n.count d = u at hc ⊢
 clear ht hn
 go_enter Tryz.func179, Tryz.ntmps179
 go_wp2_with fail
 refine hc.mono ?_
 clear hc
 rintro e w1 ⟨rfl, rfl⟩
 go_wp2_with fail
 go_ret
 exact ⟨rfl, rfl⟩
def ChgPost (w : World) (b : Nat) (S : Nat → Prop) (s : TrS) (e : Ending) (w' : World) : Prop := e = .returned (.tuple #[]) ∧ TreeAt w' b S s ∧ Mod S w w'
theorem trAdd_any (w : World) (b : Nat) (S : Nat → Prop) (s : TrS) (h : TreeAt w b S s) (hok : s.ok) (x : SpotS) (i : Int) :
    Calls Tryz.prog 180 #[.pointer (some ⟨b, 0, none⟩), spotV x, .int .i64 i] w (ChgPost w b S (s.add x i)) := by
 obtain ⟨xd, xn, xi⟩ := x
 unfold TrS.add
 simp only [spotV]
 obtain ⟨W1, hW1⟩ : ∃ W1, W1 = w.alloc (.cells #[.int .i64 xd, .string (bs xn), .int .i64 xi] 257) := ⟨_, rfl⟩
 have hB1 : Below w.heap.size w W1 := by rw [hW1]; exact belC (Below.refl _ _)
 have e0 : W1.drew.cell? ⟨w.heap.size, 0, none⟩ = some (.int .i64 xd) := by rw [hW1]; go_simp
 have e1 : W1.drew.cell? ⟨w.heap.size, 1, none⟩ = some (.string (bs xn)) := by rw [hW1]; go_simp
 have e2 : W1.drew.cell? ⟨w.heap.size, 2, none⟩ = some (.int .i64 xi) := by rw [hW1]; go_simp
 have hT1 := h.below' (hB1.trans (show Below w.heap.size W1 W1.drew by exact belC (Below.refl _ _)))
 have hns : ¬ S w.heap.size := fun hk => by have := h.lt _ hk; omega
 obtain ⟨sb, lt, ib, nb, S1, S2, c0, c1, ht, hn, s1, s2, dd, b1, b2⟩ := hT1
 have HW1 := Lib.hid hW1
 have HM1 := Lib.hid (show Mod S w W1.drew from (Mod.of_below (F := S) hB1).drew)
 have n1 : ¬ S2 w.heap.size := fun hk => hns (s2 _ hk)
 have n2 : ¬ S1 w.heap.size := fun hk => hns (s1 _ hk)
 clear h hW1 hB1
 have had := dirAdd_any W1.drew nb S2 s.n hn xd xn i (hok.n.nn xd) (hok.n.le xd)
 have hlk := fun W hW => inoLink_any W ib S1 s.t hW i 1 (Or.inl rfl) (hok.t.x i)
 have HX := Lib.hid (show ∀ W n', DirAt W nb S2 n' → Mod S2 W1.drew W → TreeAt W b S ⟨s.t, n'⟩ ∧ Mod S W1.drew W from fun W n' h1 h2 => TreeAt.dir (s := s) sb lt c0 c1 ht s1 s2 dd b1 b2 h1 h2)
 have HY := Lib.hid (show ∀ W, Mod S2 W1.drew W → TabAt W ib S1 s.t from fun W h2 => ht.mod h2 (fun k hk h => dd k hk h))
 have HZ := Lib.hid (show ∀ W W' n' t', DirAt W nb S2 n' → Mod S2 W1.drew W → TabAt W' ib S1 t' → Mod S1 W W' → TreeAt W' b S ⟨t', n'⟩ ∧ Mod S W W' from fun W W' n' t' h1 h2 h3 h4 => TreeAt.tab (s := ⟨s.t, n'⟩) sb (fun k hk => Nat.lt_of_lt_of_le (lt k hk) h2.size) (h2.at c0 b2) (h2.at c1 b2) h1 s1 s2 dd b1 b2 h3 h4)
 clear ht hn s1 s2 dd sb lt
 generalize s.n.add xd xn i = rn at had ⊢
 generalize s.t.link i 1 = rt at hlk ⊢
 obtain ⟨re, rn⟩ := rn
 obtain ⟨rf, rt⟩ := rt
 go_enter Tryz.func180, Tryz.ntmps180
 go_wp2_with fail
 rw [← HW1.out]
 refine wp_region_held_drew (S := fun w' => w'.cell? ⟨b, 1, none⟩ = some (.pointer (some ⟨nb, 0, none⟩)) ∧ w'.cell? ⟨w.heap.size, 0, none⟩ = some (.int .i64 xd) ∧ w'.cell? ⟨w.heap.size, 1, none⟩ = some (.string (bs xn))) (by kernel_rfl) ⟨c1, e0, e1⟩ (fun hHeld => ?_)
 refine takeL 0 ?_
 refine takeL 1 ?_
 refine takeL 2 ?_
 refine takeL 3 ?_
 refine takeL 4 ?_
 refine takeL 5 ?_
 refine takeL 6 ?_
 refine takeL 7 ?_
 refine takeL 8 ?_
 refine wpAnyH_ready (rs := [9]) (by kernel_rfl) (by simp) ?_
 refine AllReadyH.cons (o := _) rfl (fun K hK => ?_) AllReadyH.nil
 go_simp
 go_at_call 105
 with_reducible refine had.mono ?_
 clear had
 rintro e w2 ⟨rfl, hD2, hM2⟩
 have d0 := hM2.at c0 b2
 have d1 := hM2.at c1 b2
 have g0 := hM2.at e0 n1
 have g1 := hM2.at e1 n1
 have hT2 := HY.out _ hM2
 have HD2 := Lib.hid hD2
 have HM2 := Lib.hid hM2
 clear hD2 hM2
 try go_wp2_with fail
 refine hK.out _ _ ⟨d1, g0, g1⟩ (fun hHeld => ?_)
 clear hK K
 try simp only [Act.put, List.setIfInBounds_toArray, List.set_cons_zero, List.set_cons_succ]
 refine wpAnyH_done (by kernel_rfl) ?_ _
 go_wp2_with fail
 refine (hlk _ hT2).mono ?_
 clear hlk
 rintro e w3 ⟨rfl, hT3, hM3⟩
 go_wp2_with fail
 go_end0
 obtain ⟨h1, h2⟩ := HZ.out _ _ _ _ HD2.out HM2.out hT3 hM3
 exact ⟨rfl, h1, HM1.out.trans (((HX.out _ _ HD2.out HM2.out).2).trans h2)⟩
theorem trDrop_any (w : World) (b : Nat) (S : Nat → Prop) (s : TrS) (h : TreeAt w b S s) (hok : s.ok) (x : SpotS) :
    Calls Tryz.prog 177 #[.pointer (some ⟨b, 0, none⟩), spotV x] w (ChgPost w b S (s.drop x)) := by
 obtain ⟨xd, xn, xi⟩ := x
 unfold TrS.drop
 simp only [spotV]
 obtain ⟨W1, hW1⟩ : ∃ W1, W1 = w.alloc (.cells #[.int .i64 xd, .string (bs xn), .int .i64 xi] 257) := ⟨_, rfl⟩
 have hB1 : Below w.heap.size w W1 := by rw [hW1]; exact belC (Below.refl _ _)
 have e0 : W1.drew.cell? ⟨w.heap.size, 0, none⟩ = some (.int .i64 xd) := by rw [hW1]; go_simp
 have e1 : W1.drew.cell? ⟨w.heap.size, 1, none⟩ = some (.string (bs xn)) := by rw [hW1]; go_simp
 have e2 : W1.drew.cell? ⟨w.heap.size, 2, none⟩ = some (.int .i64 xi) := by rw [hW1]; go_simp
 have hT1 := h.below' (hB1.trans (show Below w.heap.size W1 W1.drew by exact belC (Below.refl _ _)))
 have hns : ¬ S w.heap.size := fun hk => by have := h.lt _ hk; omega
 obtain ⟨sb, lt, ib, nb, S1, S2, c0, c1, ht, hn, s1, s2, dd, b1, b2⟩ := hT1
 have HW1 := Lib.hid hW1
 have HM1 := Lib.hid (show Mod S w W1.drew from (Mod.of_below (F := S) hB1).drew)
 have n1 : ¬ S2 w.heap.size := fun hk => hns (s2 _ hk)
 have n2 : ¬ S1 w.heap.size := fun hk => hns (s1 _ hk)
 clear h hW1 hB1
 have had := dirDrop_any W1.drew nb S2 s.n hn xd xn (hok.n.nn xd) (hok.n.le xd)
 have hlk := fun W hW => inoLink_any W ib S1 s.t hW xi (-1) (Or.inr rfl) (hok.t.x xi)
 have HX := Lib.hid (show ∀ W n', DirAt W nb S2 n' → Mod S2 W1.drew W → TreeAt W b S ⟨s.t, n'⟩ ∧ Mod S W1.drew W from fun W n' h1 h2 => TreeAt.dir (s := s) sb lt c0 c1 ht s1 s2 dd b1 b2 h1 h2)
 have HY := Lib.hid (show ∀ W, Mod S2 W1.drew W → TabAt W ib S1 s.t from fun W h2 => ht.mod h2 (fun k hk h => dd k hk h))
 have HZ := Lib.hid (show ∀ W W' n' t', DirAt W nb S2 n' → Mod S2 W1.drew W → TabAt W' ib S1 t' → Mod S1 W W' → TreeAt W' b S ⟨t', n'⟩ ∧ Mod S W W' from fun W W' n' t' h1 h2 h3 h4 => TreeAt.tab (s := ⟨s.t, n'⟩) sb (fun k hk => Nat.lt_of_lt_of_le (lt k hk) h2.size) (h2.at c0 b2) (h2.at c1 b2) h1 s1 s2 dd b1 b2 h3 h4)
 clear ht hn s1 s2 dd sb lt
 generalize s.n.drop xd xn = rn at had ⊢
 generalize s.t.link xi (-1) = rt at hlk ⊢
 obtain ⟨re, rn⟩ := rn
 obtain ⟨rf, rt⟩ := rt
 go_enter Tryz.func177, Tryz.ntmps177
 go_wp2_with fail
 rw [← HW1.out]
 refine wp_region_held_drew (S := fun w' => w'.cell? ⟨b, 1, none⟩ = some (.pointer (some ⟨nb, 0, none⟩)) ∧ w'.cell? ⟨w.heap.size, 0, none⟩ = some (.int .i64 xd) ∧ w'.cell? ⟨w.heap.size, 1, none⟩ = some (.string (bs xn))) (by kernel_rfl) ⟨c1, e0, e1⟩ (fun hHeld => ?_)
 refine takeL 0 ?_
 refine takeL 1 ?_
 refine takeL 2 ?_
 refine takeL 3 ?_
 refine takeL 4 ?_
 refine takeL 5 ?_
 refine takeL 6 ?_
 refine takeL 7 ?_
 refine wpAnyH_ready (rs := [8]) (by kernel_rfl) (by simp) ?_
 refine AllReadyH.cons (o := _) rfl (fun K hK => ?_) AllReadyH.nil
 go_simp
 go_at_call 184
 with_reducible refine had.mono ?_
 clear had
 rintro e w2 ⟨rfl, hD2, hM2⟩
 have d0 := hM2.at c0 b2
 have d1 := hM2.at c1 b2
 have g0 := hM2.at e0 n1
 have g1 := hM2.at e1 n1
 have g2 := hM2.at e2 n1
 have hT2 := HY.out _ hM2
 have HD2 := Lib.hid hD2
 have HM2 := Lib.hid hM2
 clear hD2 hM2
 try go_wp2_with fail
 refine hK.out _ _ ⟨d1, g0, g1⟩ (fun hHeld => ?_)
 clear hK K
 try simp only [Act.put, List.setIfInBounds_toArray, List.set_cons_zero, List.set_cons_succ]
 refine wpAnyH_done (by kernel_rfl) ?_ _
 go_wp2_with fail
 have k0 : w2.drew.cell? ⟨b, 0, none⟩ = some (.pointer (some ⟨ib, 0, none⟩)) := d0
 have k2 : w2.drew.cell? ⟨w.heap.size, 2, none⟩ = some (.int .i64 xi) := g2
 have hT2d := hT2.below' (show Below w2.heap.size w2 w2.drew by exact belC (Below.refl _ _))
 refine wp_region_held_drew (S := fun w' => w'.cell? ⟨b, 0, none⟩ = some (.pointer (some ⟨ib, 0, none⟩)) ∧ w'.cell? ⟨w.heap.size, 2, none⟩ = some (.int .i64 xi)) (by kernel_rfl) ⟨k0, k2⟩ (fun hHeld => ?_)
 refine takeL 0 ?_
 refine takeL 1 ?_
 refine takeL 2 ?_
 refine takeL 3 ?_
 refine takeL 4 ?_
 refine takeL 5 ?_
 refine wpAnyH_ready (rs := [6]) (by kernel_rfl) (by simp) ?_
 refine AllReadyH.cons (o := _) rfl (fun K hK => ?_) AllReadyH.nil
 go_simp
 go_at_call 215
 with_reducible refine (hlk _ hT2d).mono ?_
 clear hlk
 rintro e w3 ⟨rfl, hT3, hM3⟩
 have m0 := hM3.at k0 b1
 have m2 := hM3.at k2 n2
 have HT3 := Lib.hid hT3
 have HM3 := Lib.hid ((show Mod S1 w2 w2.drew by exact modC (Mod.refl _ _)).trans hM3)
 clear hT3 hM3
 try go_wp2_with fail
 refine hK.out _ _ ⟨m0, m2⟩ (fun hHeld => ?_)
 clear hK K
 try simp only [Act.put, List.setIfInBounds_toArray, List.set_cons_zero, List.set_cons_succ]
 refine wpAnyH_done (by kernel_rfl) ?_ _
 go_end0
 obtain ⟨h1, h2⟩ := HZ.out _ _ _ _ HD2.out HM2.out HT3.out HM3.out
 exact ⟨rfl, h1, HM1.out.trans (((HX.out _ _ HD2.out HM2.out).2).trans h2)⟩
end Go.Proofs.YtajbooppoohplaaGreatDoor
/- package tree: make (Mkdir, Create) -/
namespace Esch
open Go Go.RowKit
/-- a call's error, and the tree behind it, in a world that grew out of W1 -/
def ChgR (W1 : World) (b : Nat) (S : Nat → Prop) (r : Int × TrS) (x : Int) (W : World) : Prop := x = r.1 ∧ TreeAt W b S r.2 ∧ Mod S W1 W
theorem Mod.at' {S : Nat → Prop} {w w' : World} (h : Mod S w w') {b o : Nat} {v : Value} (hc : w.cell? ⟨b, o, none⟩ = some v) (hb : ¬ S b) : w'.cell? ⟨b, o, none⟩ = some v := h.at hc hb
end Esch
namespace Go.Proofs.YtajbooppoohplaaGreatDoor
open Go.RowKit Esch Go.Shelf

theorem make1_any (W : World) (b tb pb kb : Nat) (S : Nat → Prop) (s : TrS) (h : TreeAt W b S s) (hok : s.ok) (p : Nm) (k : Int) (hk : k = 1 ∨ k = 2)
    (t0 : W.cell? ⟨tb, 0, none⟩ = some (.pointer (some ⟨b, 0, none⟩))) (p0 : W.cell? ⟨pb, 0, none⟩ = some (.string (bs p))) (k0 : W.cell? ⟨kb, 0, none⟩ = some (.int .i64 k)) (nt : ¬ S tb) (nk : ¬ S kb) :
    Calls Tryz.prog 212 #[.pointer (some ⟨tb, 0, none⟩), .pointer (some ⟨pb, 0, none⟩), .pointer (some ⟨kb, 0, none⟩)] W (DoPost (ChgR W b S ((s.mk' p k).run s))) := by
 have hpl := trPlace_any W b S s h p 61
 have hno := stop_no
 have hys := stop_yes
 have hfu := fun W hW d => trFull_any W b S s hW d
 have had := fun W s' hW ho x i => trAdd_any W b S s' hW ho x i
 have H := Lib.hid h
 obtain ⟨r, hr⟩ : ∃ r, r = (s.mk' p k).run s := ⟨_, rfl⟩
 rw [← hr]
 have HR := Lib.hid hr
 clear h hr
 cases hp : s.place p 61 with
 | err x =>
   rw [hp] at hpl
   have HE := Lib.hid (show r = (x, s) by rw [HR.out]; unfold TrS.mk'; rw [hp]; rfl)
   clear hp
   go_enter Tryz.func212, Tryz.ntmps212
   go_wp2_with fail
   refine hpl.mono ?_
   rintro e W2 ⟨hB2, rfl⟩
   go_wp2_with fail
   exact ⟨rfl, Or.inr ⟨x, rfl, by rw [HE.out], by rw [HE.out]; exact H.out.below' hB2, Mod.of_below hB2⟩⟩
 | ok x =>
   rw [hp] at hpl
   obtain ⟨xd, xn, xi⟩ := x
   have HP := Lib.hid hp
   clear hp
   by_cases hi : xi = 0
   rotate_left 1
   · have HE := Lib.hid (show r = (61, s) by rw [HR.out]; unfold TrS.mk'; rw [HP.out]; simp [Res.bind, stopB, hi, Res.run])
     have hi2 : (xi != 0) = true := by simpa using hi
     clear hi
     go_enter Tryz.func212, Tryz.ntmps212
     go_wp2_with fail
     refine hpl.mono ?_
     clear hpl
     rintro e W2 ⟨hB2, rfl⟩
     have t2 := below_at hB2 t0 (cell_lt t0)
     have p2 := below_at hB2 p0 (cell_lt p0)
     have k2 := below_at hB2 k0 (cell_lt k0)
     have HT2 := H.out.below' hB2
     simp only [spotV]
     obtain ⟨W4, hW4⟩ : ∃ W4, W4 = W2.alloc (.cells #[.int .i64 xd, .string (bs xn), .int .i64 (xi)] 257) := ⟨_, rfl⟩
     have hB4 : Below W2.heap.size W2 W4 := by rw [hW4]; exact belC (Below.refl _ _)
     have x0 : W4.cell? ⟨W2.heap.size, 0, none⟩ = some (.int .i64 xd) := by rw [hW4]; go_simp
     have x1 : W4.cell? ⟨W2.heap.size, 1, none⟩ = some (.string (bs xn)) := by rw [hW4]; go_simp
     have x2 : W4.cell? ⟨W2.heap.size, 2, none⟩ = some (.int .i64 (xi)) := by rw [hW4]; go_simp
     have t4 := below_at hB4 t2 (cell_lt t2)
     have p4 := below_at hB4 p2 (cell_lt p2)
     have k4 := below_at hB4 k2 (cell_lt k2)
     have nx : ¬ S W2.heap.size := fun hk => by have := HT2.lt _ hk; omega
     have HT4 := Lib.hid (HT2.below' hB4)
     have HM4 := Lib.hid (Mod.of_below (F := S) (hB2.trans (hB4.mono hB2.size)))
     have HW4 := Lib.hid hW4
     clear HT2 hB4 hW4 t2 p2 k2 hB2
     go_wp2_with fail
     rw [← HW4.out]
     refine (hys _ _).mono ?_
     rintro e w9 ⟨rfl, rfl⟩
     go_wp2_with fail
     exact ⟨rfl, Or.inr ⟨_, rfl, by rw [HE.out], by rw [HE.out]; exact HT4.out, HM4.out⟩⟩
   subst hi
   by_cases hf : 64 ≤ s.n.count xd
   · have HE := Lib.hid (show r = (67, s) by rw [HR.out]; unfold TrS.mk'; rw [HP.out]; simp [Res.bind, stopB, hf, Res.run])
     have hf2 : decide (64 ≤ s.n.count xd) = true := by simpa using hf
     have hfu2 := fun W hW => hfu W hW xd
     rw [hf2] at hfu2
     clear hf hf2 hfu
     go_enter Tryz.func212, Tryz.ntmps212
     go_wp2_with fail
     refine hpl.mono ?_
     clear hpl
     rintro e W2 ⟨hB2, rfl⟩
     have t2 := below_at hB2 t0 (cell_lt t0)
     have p2 := below_at hB2 p0 (cell_lt p0)
     have k2 := below_at hB2 k0 (cell_lt k0)
     have HT2 := H.out.below' hB2
     simp only [spotV]
     obtain ⟨W4, hW4⟩ : ∃ W4, W4 = W2.alloc (.cells #[.int .i64 xd, .string (bs xn), .int .i64 (0)] 257) := ⟨_, rfl⟩
     have hB4 : Below W2.heap.size W2 W4 := by rw [hW4]; exact belC (Below.refl _ _)
     have x0 : W4.cell? ⟨W2.heap.size, 0, none⟩ = some (.int .i64 xd) := by rw [hW4]; go_simp
     have x1 : W4.cell? ⟨W2.heap.size, 1, none⟩ = some (.string (bs xn)) := by rw [hW4]; go_simp
     have x2 : W4.cell? ⟨W2.heap.size, 2, none⟩ = some (.int .i64 (0)) := by rw [hW4]; go_simp
     have t4 := below_at hB4 t2 (cell_lt t2)
     have p4 := below_at hB4 p2 (cell_lt p2)
     have k4 := below_at hB4 k2 (cell_lt k2)
     have nx : ¬ S W2.heap.size := fun hk => by have := HT2.lt _ hk; omega
     have HT4 := Lib.hid (HT2.below' hB4)
     have HM4 := Lib.hid (Mod.of_below (F := S) (hB2.trans (hB4.mono hB2.size)))
     have HW4 := Lib.hid hW4
     clear HT2 hB4 hW4 t2 p2 k2 hB2
     go_wp2_with fail
     rw [← HW4.out]
     refine (hno _ _).mono ?_
     rintro e w9 ⟨rfl, rfl⟩
     go_wp2_with fail
     refine (hfu2 _ HT4.out).mono ?_
     rintro e w5 ⟨rfl, rfl⟩
     go_wp2_with fail
     refine (hys _ _).mono ?_
     rintro e w9 ⟨rfl, rfl⟩
     go_wp2_with fail
     exact ⟨rfl, Or.inr ⟨_, rfl, by rw [HE.out], by rw [HE.out]; exact HT4.out, HM4.out⟩⟩
   have hf2 : decide (64 ≤ s.n.count xd) = false := by simpa using hf
   have hfu2 := fun W hW => hfu W hW xd
   rw [hf2] at hfu2
   have Hf := Lib.hid hf
   clear hf hf2 hfu
   obtain ⟨rm, hrm⟩ : ∃ rm, rm = s.t.make k := ⟨_, rfl⟩
   have hmk := fun W ib S1 hW => inoMake_any W ib S1 s.t hW k hk hok.t.next
   rw [← hrm] at hmk
   have hokm := hok.t.make k
   rw [← hrm] at hokm
   obtain ⟨⟨mi, me⟩, mt⟩ := rm
   by_cases hme : me = 0
   rotate_left 1
   · have HE := Lib.hid (show r = (me, s) by rw [HR.out]; unfold TrS.mk'; rw [HP.out]; simp [Res.bind, stopB, Hf.out, Res.run, ← hrm, hme])
     have hsame : mt = s.t := by
       have h1 := hrm
       unfold TabS.make at h1
       split at h1
       · exact (Prod.mk.inj h1).2
       split at h1
       · exact (Prod.mk.inj h1).2
       · exact absurd (Prod.mk.inj (Prod.mk.inj h1).1).2 hme
     have hme2 : (me != 0) = true := by simpa using hme
     clear hrm hme hokm
     go_enter Tryz.func212, Tryz.ntmps212
     go_wp2_with fail
     refine hpl.mono ?_
     clear hpl
     rintro e W2 ⟨hB2, rfl⟩
     have t2 := below_at hB2 t0 (cell_lt t0)
     have p2 := below_at hB2 p0 (cell_lt p0)
     have k2 := below_at hB2 k0 (cell_lt k0)
     have HT2 := H.out.below' hB2
     simp only [spotV]
     obtain ⟨W4, hW4⟩ : ∃ W4, W4 = W2.alloc (.cells #[.int .i64 xd, .string (bs xn), .int .i64 (0)] 257) := ⟨_, rfl⟩
     have hB4 : Below W2.heap.size W2 W4 := by rw [hW4]; exact belC (Below.refl _ _)
     have x0 : W4.cell? ⟨W2.heap.size, 0, none⟩ = some (.int .i64 xd) := by rw [hW4]; go_simp
     have x1 : W4.cell? ⟨W2.heap.size, 1, none⟩ = some (.string (bs xn)) := by rw [hW4]; go_simp
     have x2 : W4.cell? ⟨W2.heap.size, 2, none⟩ = some (.int .i64 (0)) := by rw [hW4]; go_simp
     have t4 := below_at hB4 t2 (cell_lt t2)
     have p4 := below_at hB4 p2 (cell_lt p2)
     have k4 := below_at hB4 k2 (cell_lt k2)
     have nx : ¬ S W2.heap.size := fun hk => by have := HT2.lt _ hk; omega
     have HT4 := Lib.hid (HT2.below' hB4)
     have HM4 := Lib.hid (Mod.of_below (F := S) (hB2.trans (hB4.mono hB2.size)))
     have HW4 := Lib.hid hW4
     clear HT2 hB4 hW4 t2 p2 k2 hB2
     go_wp2_with fail
     rw [← HW4.out]
     refine (hno _ _).mono ?_
     rintro e w9 ⟨rfl, rfl⟩
     go_wp2_with fail
     refine (hfu2 _ HT4.out).mono ?_
     rintro e w5 ⟨rfl, rfl⟩
     go_wp2_with fail
     refine (hno _ _).mono ?_
     rintro e w9 ⟨rfl, rfl⟩
     go_wp2_with fail
     obtain ⟨sb, lt, ib, nb, S1, S2, c0, c1, ht, hn, s1, s2, dd, b1, b2⟩ := HT4.out
     have hBd : Below w9.heap.size w9 w9.drew := by exact belC (Below.refl _ _)
     have hmk2 := hmk w9.drew ib S1 (ht.below' hBd)
     have HX := Lib.hid (show ∀ W', TabAt W' ib S1 mt → Mod S1 w9.drew W' → TreeAt W' b S ⟨mt, s.n⟩ ∧ Mod S w9.drew W' from fun W' h1 h2 => TreeAt.tab (s := s) sb lt c0 c1 (hn.below' hBd) s1 s2 dd b1 b2 h1 h2)
     have hKd : w9.drew.cell? ⟨tb, 0, none⟩ = some (.pointer (some ⟨b, 0, none⟩)) ∧ w9.drew.cell? ⟨kb, 0, none⟩ = some (.int .i64 k) ∧ w9.drew.cell? ⟨b, 0, none⟩ = some (.pointer (some ⟨ib, 0, none⟩)) := ⟨t4, k4, c0⟩
     have q1 : ¬ S1 tb := fun hk => nt (s1 _ hk)
     have q2 : ¬ S1 kb := fun hk => nk (s1 _ hk)
     have q3 : ¬ S1 W2.heap.size := fun hk => nx (s1 _ hk)
     clear ht hn s1 s2 dd lt sb c1 b2 hmk
     go_region_held3 (fun W' => W'.cell? ⟨tb, 0, none⟩ = some (.pointer (some ⟨b, 0, none⟩)) ∧ W'.cell? ⟨kb, 0, none⟩ = some (.int .i64 k) ∧ W'.cell? ⟨b, 0, none⟩ = some (.pointer (some ⟨ib, 0, none⟩)))
       (first
         | with_reducible exact hKd
         | with_reducible exact hKm)
       (first
         | (go_at_call 213; (with_reducible refine hmk2.mono ?_); rintro e w10 ⟨rfl, hT10, hM10⟩
            have hKm : w10.cell? ⟨tb, 0, none⟩ = some (.pointer (some ⟨b, 0, none⟩)) ∧ w10.cell? ⟨kb, 0, none⟩ = some (.int .i64 k) ∧ w10.cell? ⟨b, 0, none⟩ = some (.pointer (some ⟨ib, 0, none⟩)) := ⟨hM10.at hKd.1 q1, hM10.at hKd.2.1 q2, hM10.at hKd.2.2 b1⟩
            have HT10 := Lib.hid (HX.out _ hT10 hM10).1
            have HM10 := Lib.hid (HM4.out.trans ((show Mod S w9 w9.drew by exact modC (Mod.refl _ _)).trans (HX.out _ hT10 hM10).2))
            have y0 := hM10.at (show w9.drew.cell? ⟨W2.heap.size, 0, none⟩ = _ from x0) q3
            have y1 := hM10.at (show w9.drew.cell? ⟨W2.heap.size, 1, none⟩ = _ from x1) q3
            have y2 := hM10.at (show w9.drew.cell? ⟨W2.heap.size, 2, none⟩ = _ from x2) q3
            clear hT10 hM10))
     go_wp2_with fail
     refine (hys _ _).mono ?_
     rintro e w11 ⟨rfl, rfl⟩
     go_wp2_with fail
     have hT := HT10.out
     rw [show (⟨mt, s.n⟩ : TrS) = s by rw [hsame]] at hT
     exact ⟨rfl, Or.inr ⟨_, rfl, by rw [HE.out], by rw [HE.out]; exact hT, HM10.out⟩⟩
   · subst hme
     have HE := Lib.hid (show r = (0, TrS.add ⟨mt, s.n⟩ ⟨xd, xn, 0⟩ mi) by rw [HR.out]; unfold TrS.mk'; rw [HP.out]; simp [Res.bind, stopB, Hf.out, Res.run, ← hrm])
     have had2 := fun W hW => had W ⟨mt, s.n⟩ hW ⟨hokm, hok.n⟩ ⟨xd, xn, 0⟩ mi
     simp only [spotV] at had2
     clear hrm hokm had
     go_enter Tryz.func212, Tryz.ntmps212
     go_wp2_with fail
     refine hpl.mono ?_
     clear hpl
     rintro e W2 ⟨hB2, rfl⟩
     have t2 := below_at hB2 t0 (cell_lt t0)
     have p2 := below_at hB2 p0 (cell_lt p0)
     have k2 := below_at hB2 k0 (cell_lt k0)
     have HT2 := H.out.below' hB2
     simp only [spotV]
     obtain ⟨W4, hW4⟩ : ∃ W4, W4 = W2.alloc (.cells #[.int .i64 xd, .string (bs xn), .int .i64 (0)] 257) := ⟨_, rfl⟩
     have hB4 : Below W2.heap.size W2 W4 := by rw [hW4]; exact belC (Below.refl _ _)
     have x0 : W4.cell? ⟨W2.heap.size, 0, none⟩ = some (.int .i64 xd) := by rw [hW4]; go_simp
     have x1 : W4.cell? ⟨W2.heap.size, 1, none⟩ = some (.string (bs xn)) := by rw [hW4]; go_simp
     have x2 : W4.cell? ⟨W2.heap.size, 2, none⟩ = some (.int .i64 (0)) := by rw [hW4]; go_simp
     have t4 := below_at hB4 t2 (cell_lt t2)
     have p4 := below_at hB4 p2 (cell_lt p2)
     have k4 := below_at hB4 k2 (cell_lt k2)
     have nx : ¬ S W2.heap.size := fun hk => by have := HT2.lt _ hk; omega
     have HT4 := Lib.hid (HT2.below' hB4)
     have HM4 := Lib.hid (Mod.of_below (F := S) (hB2.trans (hB4.mono hB2.size)))
     have HW4 := Lib.hid hW4
     clear HT2 hB4 hW4 t2 p2 k2 hB2
     go_wp2_with fail
     rw [← HW4.out]
     refine (hno _ _).mono ?_
     rintro e w9 ⟨rfl, rfl⟩
     go_wp2_with fail
     refine (hfu2 _ HT4.out).mono ?_
     rintro e w5 ⟨rfl, rfl⟩
     go_wp2_with fail
     refine (hno _ _).mono ?_
     rintro e w9 ⟨rfl, rfl⟩
     go_wp2_with fail
     obtain ⟨sb, lt, ib, nb, S1, S2, c0, c1, ht, hn, s1, s2, dd, b1, b2⟩ := HT4.out
     have hBd : Below w9.heap.size w9 w9.drew := by exact belC (Below.refl _ _)
     have hmk2 := hmk w9.drew ib S1 (ht.below' hBd)
     have HX := Lib.hid (show ∀ W', TabAt W' ib S1 mt → Mod S1 w9.drew W' → TreeAt W' b S ⟨mt, s.n⟩ ∧ Mod S w9.drew W' from fun W' h1 h2 => TreeAt.tab (s := s) sb lt c0 c1 (hn.below' hBd) s1 s2 dd b1 b2 h1 h2)
     have hKd : w9.drew.cell? ⟨tb, 0, none⟩ = some (.pointer (some ⟨b, 0, none⟩)) ∧ w9.drew.cell? ⟨kb, 0, none⟩ = some (.int .i64 k) ∧ w9.drew.cell? ⟨b, 0, none⟩ = some (.pointer (some ⟨ib, 0, none⟩)) := ⟨t4, k4, c0⟩
     have q1 : ¬ S1 tb := fun hk => nt (s1 _ hk)
     have q2 : ¬ S1 kb := fun hk => nk (s1 _ hk)
     have q3 : ¬ S1 W2.heap.size := fun hk => nx (s1 _ hk)
     clear ht hn s1 s2 dd lt sb c1 b2 hmk
     go_region_held3 (fun W' => W'.cell? ⟨tb, 0, none⟩ = some (.pointer (some ⟨b, 0, none⟩)) ∧ W'.cell? ⟨kb, 0, none⟩ = some (.int .i64 k) ∧ W'.cell? ⟨b, 0, none⟩ = some (.pointer (some ⟨ib, 0, none⟩)))
       (first
         | with_reducible exact hKd
         | with_reducible exact hKm)
       (first
         | (go_at_call 213; (with_reducible refine hmk2.mono ?_); rintro e w10 ⟨rfl, hT10, hM10⟩
            have hKm : w10.cell? ⟨tb, 0, none⟩ = some (.pointer (some ⟨b, 0, none⟩)) ∧ w10.cell? ⟨kb, 0, none⟩ = some (.int .i64 k) ∧ w10.cell? ⟨b, 0, none⟩ = some (.pointer (some ⟨ib, 0, none⟩)) := ⟨hM10.at hKd.1 q1, hM10.at hKd.2.1 q2, hM10.at hKd.2.2 b1⟩
            have HT10 := Lib.hid (HX.out _ hT10 hM10).1
            have HM10 := Lib.hid (HM4.out.trans ((show Mod S w9 w9.drew by exact modC (Mod.refl _ _)).trans (HX.out _ hT10 hM10).2))
            have y0 := hM10.at (show w9.drew.cell? ⟨W2.heap.size, 0, none⟩ = _ from x0) q3
            have y1 := hM10.at (show w9.drew.cell? ⟨W2.heap.size, 1, none⟩ = _ from x1) q3
            have y2 := hM10.at (show w9.drew.cell? ⟨W2.heap.size, 2, none⟩ = _ from x2) q3
            clear hT10 hM10))
     obtain ⟨m0, m1, m2⟩ := hKm
     go_wp2_with fail
     refine (hno _ _).mono ?_
     rintro e w9 ⟨rfl, rfl⟩
     go_wp2_with fail
     refine (had2 _ HT10.out).mono ?_
     clear had2
     rintro e w12 ⟨rfl, hT12, hM12⟩
     go_wp2_with fail
     go_end0
     exact Or.inl ⟨rfl, by rw [HE.out], by rw [HE.out]; exact hT12, HM10.out.trans hM12⟩
def ErrPost (w : World) (b : Nat) (S : Nat → Prop) (r : Int × TrS) (e : Ending) (w' : World) : Prop := e = .returned (.int .i64 r.1) ∧ TreeAt w' b S r.2 ∧ Mod S w w'
theorem tries_tree (w : World) (b g : Nat) (lb : Array Value) (S : Nat → Prop) (r : Int × TrS) (hS : ¬ S w.heap.size) (eg : ∀ args w, (callFunc g args).run Tryz.prog w = .ok (.enter g args) w)
    (hdo : Calls Tryz.prog g lb (w.alloc (.cells #[.int .i64 0] 37)) (DoPost (ChgR (w.alloc (.cells #[.int .i64 0] 37)) b S r))) :
    Calls Tryz.prog 62 #[.pointer (some ⟨b, 0, none⟩), .func (.func g) #[] lb] w (ErrPost w b S r) := by
 refine (tries_any w b g lb _ eg hdo (fun x W hr => ⟨hr.2.2.at (by go_simp) hS, (hr.2.2.frozen (p := ⟨w.heap.size, 0, none⟩) (by simp) hS).trans (by go_simp)⟩)).mono ?_
 rintro e w' ⟨x, W, rfl, ⟨rfl, hT, hM⟩, hM2⟩
 have h1 : Mod S w W := (show Mod S w (w.alloc (.cells #[.int .i64 0] 37)) by exact modC (Mod.refl _ _)).trans hM
 exact ⟨rfl, hT.mod hM2 (fun k hk e => hS (by rw [← e]; exact hk)), ⟨hM2.os.trans h1.os, hM2.tape.trans h1.tape, hM2.output.trans h1.output, Nat.le_trans h1.size hM2.size, fun k hk hF => (hM2.block k (Nat.lt_of_lt_of_le hk h1.size) (fun e => by have e : k = w.heap.size := e; omega)).trans (h1.block k hk hF)⟩⟩
theorem trMake_any (w : World) (b : Nat) (S : Nat → Prop) (s : TrS) (h : TreeAt w b S s) (hok : s.ok) (p : Nm) (k : Int) (hk : k = 1 ∨ k = 2) :
    Calls Tryz.prog 173 #[.pointer (some ⟨b, 0, none⟩), .string (bs p), .int .i64 k] w (ErrPost w b S ((s.mk' p k).run s)) := by
 have hmf : ∀ (fn : Fn) (first cap : Array Value) (w : World), (Instr.makeFunc fn first cap).run Tryz.prog w = .ok (.func fn first cap) w := fun _ _ _ _ => rfl
 obtain ⟨W1, hW1⟩ : ∃ W1, W1 = ((w.alloc (.cells #[.pointer (some ⟨b, 0, none⟩)] 52)).alloc (.cells #[.string (bs p)] 9)).alloc (.cells #[.int .i64 k] 3) := ⟨_, rfl⟩
 have hB1 : Below w.heap.size w W1 := by rw [hW1]; exact belC (Below.refl _ _)
 have hz1 : W1.heap.size = w.heap.size + 3 := by rw [hW1]; simp
 have hns : ∀ k, w.heap.size ≤ k → ¬ S k := fun k hk hs => by have := h.lt k hs; omega
 have hs1 : ¬ S W1.heap.size := hns _ (by omega)
 have hBe : Below w.heap.size w (W1.alloc (.cells #[.int .i64 0] 37)) := by exact belC hB1
 have hdo := make1_any (W1.alloc (.cells #[.int .i64 0] 37)) b w.heap.size (w.heap.size + 1) (w.heap.size + 2) S s (h.below' hBe) hok p k hk (by rw [hW1]; go_simp) (by rw [hW1]; go_simp) (by rw [hW1]; go_simp) (hns _ (Nat.le_refl _)) (hns _ (by omega))
 have HM1 := Lib.hid (Mod.of_below (F := S) hB1)
 have HW1 := Lib.hid hW1
 obtain ⟨r, hr⟩ : ∃ r, r = (s.mk' p k).run s := ⟨_, rfl⟩
 rw [← hr] at hdo ⊢
 clear hr hB1 hW1 hBe h hz1 hns hok
 go_enter Tryz.func173, Tryz.ntmps173
 go_wp2_with fail
 rw [← HW1.out]
 refine (tries_tree W1 b 212 _ S r hs1 (enters_of Tryz.func212 (by kernel_rfl) rfl) hdo).mono ?_
 clear hdo
 rintro e W2 ⟨rfl, hT2, hM2⟩
 go_wp2_with fail
 go_ret
 exact ⟨rfl, hT2, HM1.out.trans hM2⟩
theorem trMkdir_any (w : World) (b : Nat) (S : Nat → Prop) (s : TrS) (h : TreeAt w b S s) (hok : s.ok) (p : Nm) :
    Calls Tryz.prog 127 #[.pointer (some ⟨b, 0, none⟩), .string (bs p)] w (ErrPost w b S ((s.mk' p 1).run s)) := by
 have hm := trMake_any w b S s h hok p 1 (Or.inl rfl)
 generalize (s.mk' p 1).run s = r at hm ⊢
 go_enter Tryz.func127, Tryz.ntmps127
 exact mK97
theorem trCreate_any (w : World) (b : Nat) (S : Nat → Prop) (s : TrS) (h : TreeAt w b S s) (hok : s.ok) (p : Nm) :
    Calls Tryz.prog 129 #[.pointer (some ⟨b, 0, none⟩), .string (bs p)] w (ErrPost w b S ((s.mk' p 2).run s)) := by
 have hm := trMake_any w b S s h hok p 2 (Or.inr rfl)
 generalize (s.mk' p 2).run s = r at hm ⊢
 go_enter Tryz.func129, Tryz.ntmps129
 exact mK97
end Go.Proofs.YtajbooppoohplaaGreatDoor
