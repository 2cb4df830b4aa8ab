import Derived.Test.YtmnkackkeppheaaGreatPkIno
import Derived.Test.YtmnkackkeppheaaGreatShelf2
import Derived.Test.YtmnkackkeppheaaGreatShelf3
import Derived.RangeFuncGives
import Derived.Shelf.AbstractIn
import Derived.OwnWalkIn
import Derived.TacticsInMore
import Derived.LoopNIn
import Derived.LoopIn
import Derived.RegionIn
import Derived.Test.YtmnkackkeppheaaGreatPkDir
import Derived.Test.YtmnkackkeppheaaGreatPkExt
import Derived.Defers
import Derived.Recover
import Derived.Test.YtmnkackkeppheaaGreatPkBase
/- package inode: All, the numbers of the inodes, rising -/
namespace Esch
open Go Go.RowKit
/-- numbers in memory -/
def NumsAt (S : Nat → Prop) (w : World) (a : Option Addr) (l : List Int) : Prop :=
  0 < l.length → ∃ b off, a = some ⟨b, off, none⟩ ∧ S b ∧ b < w.heap.size ∧ ∀ i, i < l.length → w.cell? ⟨b, off + i, none⟩ = some (.int .i64 (l.getD i 0))
theorem NumsAt.nil (S : Nat → Prop) (w : World) (a : Option Addr) : NumsAt S w a [] := fun h => absurd h (by simp)
theorem NumsAt.sub {S T : Nat → Prop} {w : World} {a : Option Addr} {l : List Int} (h : NumsAt S w a l) (hS : ∀ k, k < w.heap.size → S k → T k) : NumsAt T w a l := fun h0 => by
  obtain ⟨b, off, e, hb, hl, hc⟩ := h h0
  exact ⟨b, off, e, hS b hl hb, hl, hc⟩
theorem owns_nums {w : World} {B : Nat} {e : TypeId} {v : Value} {l : List Int} {n : Nat} (h : w.ownsRow B e 1 v n (l.map (Value.int .i64))) : ∃ a c, v = .slice a l.length c ∧ NumsAt (From B) w a l ∧ CapN l.length c := by
  obtain ⟨hl, h⟩ := h
  simp only [List.length_map, Nat.mul_one] at hl
  subst hl
  rcases h with ⟨rfl, h0⟩ | ⟨g, cap, cur, rfl, hb, hg, hc, hcm, hs, ht⟩
  · have : l = [] := List.length_eq_zero_iff.1 h0
    subst this
    exact ⟨none, 0, rfl, NumsAt.nil _ _ _, by simp, by omega⟩
  · refine ⟨_, cap, rfl, fun h0 => ⟨g, 0, rfl, hb, block_lt hg, fun i hi => ?_⟩, hc, (by unfold Go.maxLen at hcm; omega)⟩
    have h1 : cur[i]? = some (.int .i64 (l.getD i 0)) := by
      have : (cur.toList.take (l.length * 1))[i]? = (l.map (Value.int .i64))[i]? := by rw [ht]
      rw [List.getElem?_take, if_pos (by omega), Array.getElem?_toList, List.getElem?_map, List.getElem?_eq_getElem hi] at this
      rw [this, List.getD_eq_getElem?_getD, List.getElem?_eq_getElem hi]; rfl
    rw [show (⟨g, 0 + i, none⟩ : Addr) = ⟨g, i, none⟩ by rw [Nat.zero_add]]
    simp [World.cell?, hg, h1]
def sortI (l : List Int) : List Int := l.mergeSort fun x y => decide (x ≤ y)
end Esch
namespace Go.Proofs.YtmnkackkeppheaaGreat
open Go.RowKit Esch Go.Shelf Go.Sort Go.Maps Go.Lib
attribute [local go_sem] Oper.semAt_some

set_option maxHeartbeats 1000000 in
theorem insNil (w : World) (a : Option Addr) (c : Nat) : Calls Tryz.prog 165 #[.slice a 0 c, .int .i64 0, .int .i64 0] w fun e w' => e = .returned (.tuple #[]) ∧ w' = w := by
  go_enter Tryz.func165, Tryz.ntmps165
  go_wp2_with fail
  go_loopg [6] 0 (fun g s6 wr => g = 0 ∧ s6 = .int .i64 1 ∧ wr = w)
  case atStart => exact ⟨rfl, rfl, rfl⟩
  case round =>
    obtain ⟨rfl, rfl, rfl⟩ := hrel
    go_wp2_with fail
    go_end0
    exact ⟨rfl, rfl⟩
theorem len640 (w : World) : Calls Tryz.prog 145 #[.int .u64 0] w fun e w' => ∃ n : Int, e = .returned (.int .i64 n) ∧ w' = w := by
  go_enter Tryz.func145, Tryz.ntmps145
  go_wp2_with fail
  go_ret
  exact ⟨_, rfl, rfl⟩
theorem len0 (w : World) : Calls Tryz.prog 118 #[.int .u64 0] w fun e w' => ∃ n : Int, e = .returned (.int .i64 n) ∧ w' = w := by
  go_enter Tryz.func118, Tryz.ntmps118
  go_wp2_with fail
  refine (len640 _).mono ?_
  rintro e w1 ⟨n, rfl, rfl⟩
  go_wp2_with fail
  go_ret
  exact ⟨n, rfl, rfl⟩
set_option maxRecDepth 100000 in
set_option maxHeartbeats 1000000 in
theorem pdqNil (w : World) (a : Option Addr) (c : Nat) (n : Int) : Calls Tryz.prog 149 #[.slice a 0 c, .int .i64 0, .int .i64 0, .int .i64 n] w fun e w' => e = .returned (.tuple #[]) ∧ w' = w := by
  go_enter Tryz.func149, Tryz.ntmps149
  go_wp2_with fail
  go_loopg [1, 2] 0 (fun g s1 s2 wr => g = 0 ∧ s1 = .int .i64 0 ∧ s2 = .int .i64 0 ∧ wr = w)
  case atStart => exact ⟨rfl, rfl, rfl, rfl⟩
  case round =>
    obtain ⟨rfl, rfl, rfl, rfl⟩ := hrel
    go_wp2_with fail
    refine (insNil _ a c).mono ?_
    rintro e w1 ⟨rfl, rfl⟩
    go_wp2_with fail
    refine bodyPost_ret (results_none rfl _ _ _) rfl ?_
    exact ⟨rfl, rfl⟩
theorem sortNil (w : World) (a : Option Addr) (c : Nat) : Calls Tryz.prog 132 #[.slice a 0 c] w fun e w' => e = .returned (.tuple #[]) ∧ w' = w := by
  go_enter Tryz.func132, Tryz.ntmps132
  go_wp2_with fail
  refine (len0 _).mono ?_
  rintro e w1 ⟨n, rfl, rfl⟩
  go_wp2_with fail
  refine (pdqNil _ a c n).mono ?_
  rintro e w1 ⟨rfl, rfl⟩
  go_wp2_with fail
  go_end0
  exact ⟨rfl, rfl⟩
theorem sortsIn (n : Nat) : AnyZI.SortsIn Tryz.prog Tryz.sorted6_ren Fence.wide n :=
  ⟨fun blk off cap ss W hH hblk hsz => callsIn_wide.2 (Any.slices_Sort_int Tryz.lays189 blk off cap ss W hH hblk hsz),
   fun p cap W => callsIn_wide.2 (sortNil W p cap)⟩
set_option maxHeartbeats 1000000 in
theorem keysI_in (F : Fence) (n : Nat) (h7 : F.fn 113) (hro : F.round = none) (mb : Option Nat) (w : World) :
    CallsIn F n Tryz.prog 113 #[.map mb] w fun e w' => e = .returned (.func (.func 133) #[] #[.pointer (some ⟨w.heap.size, 0, none⟩)]) ∧ w' = w.alloc (.cells #[.map mb] 176) := by
  refine callsIn_of_wp Tryz.func113 rfl h7 ?_ hro
  simp only [Tryz.ntmps113, List.size_toArray, List.length_cons, List.length_nil, Nat.reduceAdd, Nat.reduceSub, Array.replicate_succ, Array.replicate_zero, List.push_toArray, List.append_toArray, List.nil_append, List.cons_append]
  gi_wp2
  go_ret
  exact ⟨rfl, rfl⟩
set_option maxRecDepth 100000 in
set_option maxHeartbeats 1000000 in
theorem keysI_gives (F : Fence) (n : Nat) (h10 : F.fn 133) (hro : F.round = none) (hn : 1 ≤ n) (Bm b : Nat) (m : List (Int × InC)) (w : World) (hBm : Bm < w.heap.size) (hm : w.cell? ⟨Bm, 0, none⟩ = some (.map (some b))) (hmp : MpAt w b iV inCV m) :
    SeqGives F n Tryz.prog 133 #[.pointer (some ⟨Bm, 0, none⟩)] encZ (fun ss => ss.Perm (m.map (·.1))) m.length w := by
  intro l J W hBW hJ hY h0
  have hm := below_at hBW hm hBm
  have hmp := hmp.mod (F := none') (Mod.of_below hBW) id
  obtain ⟨es, clock, hown⟩ := hmp
  show CallsIn F n Tryz.prog 133 #[.func (.yield l) #[] #[], .pointer (some ⟨Bm, 0, none⟩)] W _
  refine callsIn_of_wp Tryz.func133 rfl h10 ?_ hro
  simp only [Tryz.ntmps133, List.size_toArray, List.length_cons, List.length_nil, Nat.reduceAdd, Nat.reduceSub, Array.replicate_succ, Array.replicate_zero, List.push_toArray, List.append_toArray, List.nil_append, List.cons_append]
  gi_wp2_with (first
    | (gi_at_range; refine wpListIn_range_map rfl _ _ rfl _ _ Tryz.underlying176 rfl hown ?_; intro w0 hrg0 e0)
    | gi_in)
  go_frame
  have hg0 : W.grownBy w0 none := by rw [e0]; exact World.grownBy_alloc _ _ _
  clear e0
  gi_loopw [3] (fun _ wr => ∃ (left : List (Int × InC)) (ss : List Int), Ranges wr b W.heap.size iV inCV m left ∧ ss.length + left.length = m.length ∧ (ss ++ left.map (·.1)).Perm (m.map (·.1)) ∧ J ss wr)
    (fun _ wr => wr.rangeLeft b W.heap.size)
  case atStart => exact ⟨m, [], hrg0, by simp, by simp, hJ [] W w0 none h0 hg0 (fun r e => by cases e)⟩
  case round =>
    obtain ⟨left, ss, hrg, hcs, hC, hJs⟩ := hrel
    have HC := Lib.hid hC
    have hlen : ss.length ≤ m.length := by omega
    have Hcs := Lib.hid hcs
    clear hC hcs
    gi_wp2_with (first
      | (gi_at_next; refine wpListIn_next_map rfl _ rfl rfl hrg ?_ ?_)
      | gi_in)
    · intro hl0
      have HL := Lib.hid hl0
      clear hl0
      gi_wp2
      go_end0
      exact ⟨⟨_, rfl⟩, ss, by have := HC.out; rw [HL.out] at this; simpa using this, hJs⟩
    · intro pre x c post w2 hl hrg2 hg2 hs2 hen
      have HL := Lib.hid hl
      have hlt : ss.length < m.length := by have := Hcs.out; rw [hl] at this; simp at this; omega
      simp only [iV, inCV] at hen ⊢
      have hJ2 : J ss w2 := hJ ss wr w2 (some W.heap.size) hJs hg2 (fun r e => by cases e; exact ⟨Nat.le_refl _, hrg.walk⟩)
      obtain ⟨fn, tmps, assign, body, hy, hR⟩ := hY ss x _ hJ2 hlt
      clear hs2 hl
      gi_wp2
      refine hR.mono ?_
      rintro e W3 ⟨rfl, hJ3, hk3⟩
      gi_wp2
      have hrg3 := hrg2.of_walks hk3
      go_roundw
      case rel => exact ⟨pre ++ post, ss ++ [x], hrg3, by have := Hcs.out; rw [HL.out] at this; simp at this ⊢; omega, by
        refine List.Perm.trans ?_ HC.out
        rw [HL.out]
        simp only [List.map_append, List.map_cons, List.append_assoc, List.singleton_append]
        exact List.Perm.append_left ss List.perm_middle.symm, hJ3⟩
      case measure => rw [hrg3.left_eq, hrg.left_eq, HL.out]; simp
def AllPost (w : World) (m : List (Int × InS)) (e : Ending) (w' : World) : Prop :=
  ∃ a c, e = .returned (.slice a (sortI (m.map (·.1))).length c) ∧ NumsAt (From w.heap.size) w' a (sortI (m.map (·.1))) ∧ CapN (sortI (m.map (·.1))).length c ∧ Below w.heap.size w w'
set_option maxRecDepth 100000 in
set_option maxHeartbeats 2000000 in
theorem inoAll_any (w : World) (b : Nat) (S : Nat → Prop) (s : TabS) (h : TabAt w b S s) (hl : s.m.length ≤ 100000) :
    Calls Tryz.prog 76 #[.pointer (some ⟨b, 0, none⟩)] w (AllPost w s.m) := by
  obtain ⟨sb, lt, mb, mc, c0, c1, f1, hm, sm, n1, hv, -⟩ := h
  have hk : s.m.map (·.1) = mc.map (·.1) := by rw [← hv, List.map_map]; rfl
  have hll : s.m.length = mc.length := by rw [← hv, List.length_map]
  unfold AllPost
  rw [hk]
  rw [hll] at hl
  have hB1 : Below w.heap.size w (w.alloc (.cells #[.map (some mb)] 176)) := by exact belC (Below.refl _ _)
  have hseq : SeqGives Fence.wide 2 Tryz.prog 133 #[.pointer (some ⟨w.heap.size, 0, none⟩)] encZ (fun ss => ss.Perm (mc.map (·.1))) mc.length (w.alloc (.cells #[.map (some mb)] 176)) :=
    keysI_gives Fence.wide 2 trivial rfl (by omega) w.heap.size mb mc _ (by simp) (by go_simp) (hm.mod (F := none') (Mod.of_below hB1) id)
  have cK : ∀ mb W, CallsIn Fence.wide 5 Tryz.prog 113 #[.map mb] W fun e w' => e = .returned (.func (.func 133) #[] #[.pointer (some ⟨W.heap.size, 0, none⟩)]) ∧ w' = W.alloc (.cells #[.map mb] 176) := fun mb W => keysI_in Fence.wide 5 trivial rfl mb W
  have cS := AnyZI.sorted_in Tryz.sorted6 Fence.wide 5 trivial trivial trivial trivial rfl (by omega) (sortsIn _) (enters_of Tryz.func132 (by kernel_rfl) rfl) 133 #[.pointer (some ⟨w.heap.size, 0, none⟩)] trivial (enters_of Tryz.func133 (by kernel_rfl) rfl) _ mc.length (by unfold Go.maxLen; omega) (by omega) _ hseq
  change CallsIn _ _ Tryz.prog 112 _ _ _ at cS
  have cS2 := (callsIn_wide).1 cS
  have cK2 := fun mb W => (callsIn_wide).1 (cK mb W)
  clear cS cK hseq c1 f1 hl lt hm hv hk hll
  go_enter Tryz.func76, Tryz.ntmps76
  go_wp2_with fail
  refine (cK2 _ _).mono ?_
  rintro e w1 ⟨rfl, rfl⟩
  go_wp2_with fail
  refine cS2.mono ?_
  clear cS2
  rintro e w2 ⟨v, ss, rfl, hS, hrow, -, hB⟩
  have hss : ss.mergeSort (fun x y => decide (x ≤ y)) = sortI (mc.map (·.1)) := mergeSort_of_perm_i hS
  rw [hss] at hrow
  obtain ⟨a, c, rfl, h1, h2⟩ := owns_nums (n := ss.length) (by simpa using hrow)
  go_wp2_with fail
  go_ret
  refine ⟨a, c, rfl, h1.sub (fun k _ hk => ?_), h2, hB1.trans (hB.mono (by simp))⟩
  have hk : w.heap.size + 1 ≤ k := hk
  show w.heap.size ≤ k
  omega
end Go.Proofs.YtmnkackkeppheaaGreat
/- package tree: stop, kind, resolve, place -/
namespace Esch
open Go Go.RowKit
structure TreeAt (w : World) (b : Nat) (S : Nat → Prop) (s : TrS) : Prop where
  sb : S b
  lt : ∀ k, S k → k < w.heap.size
  ex : ∃ ib nb S1 S2, w.cell? ⟨b, 0, none⟩ = some (.pointer (some ⟨ib, 0, none⟩)) ∧ w.cell? ⟨b, 1, none⟩ = some (.pointer (some ⟨nb, 0, none⟩)) ∧ TabAt w ib S1 s.t ∧ DirAt w nb S2 s.n ∧
    (∀ k, S1 k → S k) ∧ (∀ k, S2 k → S k) ∧ (∀ k, S1 k → ¬ S2 k) ∧ ¬ S1 b ∧ ¬ S2 b
theorem TreeAt.mod {w w' : World} {b : Nat} {S F : Nat → Prop} {s : TrS} (h : TreeAt w b S s) (hM : Mod F w w') (hF : ∀ k, S k → ¬ F k) : TreeAt w' b S s := by
  obtain ⟨sb, lt, ib, nb, S1, S2, c0, c1, ht, hn, s1, s2, d, b1, b2⟩ := h
  exact ⟨sb, fun k hk => Nat.lt_of_lt_of_le (lt k hk) hM.size, ib, nb, S1, S2, hM.at c0 (hF b sb), hM.at c1 (hF b sb), ht.mod hM (fun k hk => hF k (s1 k hk)), hn.mod hM (fun k hk => hF k (s2 k hk)), s1, s2, d, b1, b2⟩
theorem TreeAt.below' {w w' : World} {b : Nat} {S : Nat → Prop} {s : TrS} (h : TreeAt w b S s) (hB : Below w.heap.size w w') : TreeAt w' b S s := h.mod (F := none') (Mod.of_below hB) fun _ _ => id
end Esch
namespace Go.Proofs.YtmnkackkeppheaaGreat
open Go.RowKit Esch Go.Shelf

theorem trKind_any (w : World) (b : Nat) (S : Nat → Prop) (s : TrS) (h : TreeAt w b S s) (i : Int) :
    Calls Tryz.prog 128 #[.pointer (some ⟨b, 0, none⟩), .int .i64 i] w fun e w' => e = .returned (.int .i64 (s.kind i)) ∧ Below w.heap.size w w' := by
  obtain ⟨sb, lt, ib, nb, S1, S2, c0, c1, ht, hn, s1, s2, d, b1, b2⟩ := h
  have hs := inoStat_any w ib S1 s.t ht i
  unfold TrS.kind
  obtain ⟨⟨x0, x1, x2, x3, x4, xp⟩, hx⟩ : ∃ x, x = s.t.at i := ⟨_, rfl⟩
  rw [← hx] at hs ⊢
  simp only [statV] at hs ⊢
  clear hx ht hn
  go_enter Tryz.func128, Tryz.ntmps128
  go_wp2_with fail
  refine hs.mono ?_
  clear hs
  rintro e W2 ⟨rfl, hB2⟩
  have hz := hB2.size
  go_wp2_with fail
  go_ret
  exact ⟨rfl, by exact belC hB2⟩
end Go.Proofs.YtmnkackkeppheaaGreat
/- package tree: place -/
namespace Go.Proofs.YtmnkackkeppheaaGreat
open Go.RowKit Esch Go.Shelf

end Go.Proofs.YtmnkackkeppheaaGreat
/- package tree: tries, a call that a panic of the tree's own may end -/
namespace Go.Proofs.YtmnkackkeppheaaGreat
open Go.RowKit Esch Go.Shelf

end Go.Proofs.YtmnkackkeppheaaGreat
/- package tree: New, full, add, drop -/
namespace Esch
open Go Go.RowKit
end Esch
namespace Go.Proofs.YtmnkackkeppheaaGreat
open Go.RowKit Esch Go.Shelf

theorem trNew_any (w : World) : Calls Tryz.prog 46 #[] w fun e w' => ∃ b, e = .returned (.pointer (some ⟨b, 0, none⟩)) ∧ TreeAt w' b (fun k => w.heap.size ≤ k ∧ k < w'.heap.size) tr0 ∧ Below w.heap.size w w' := by
  go_enter Tryz.func46, Tryz.ntmps46
  go_wp2_with fail
  refine (inoNew_any _).mono ?_
  rintro e w1 ⟨ib, rfl, ht, hB1⟩
  have HT := Lib.hid ht
  have HB1 := Lib.hid hB1
  clear ht hB1
  go_wp2_with fail
  refine (dirNew_any _).mono ?_
  rintro e w2 ⟨nb, rfl, hn, hB2⟩
  have HN := Lib.hid hn
  have HB2 := Lib.hid hB2
  clear hn hB2
  go_wp2_with fail
  go_ret
  have h1 := HB1.out.size
  have h2 := HB2.out.size
  have hBn : Below w2.heap.size w2 (w2.alloc (.cells #[.pointer (some ⟨ib, 0, none⟩), .pointer (some ⟨nb, 0, none⟩)] 168)) := by exact belC (Below.refl _ _)
  have hB : Below w.heap.size w (w2.alloc (.cells #[.pointer (some ⟨ib, 0, none⟩), .pointer (some ⟨nb, 0, none⟩)] 168)) := (HB1.out.trans (HB2.out.mono h1)).trans (hBn.mono (by omega))
  refine ⟨w2.heap.size, rfl, ⟨⟨by omega, by simp⟩, fun k hk => hk.2, ib, nb, _, _, by go_simp, by go_simp, (HT.out.below' HB2.out).below' hBn, HN.out.below' hBn, fun k hk => ⟨hk.1, ?_⟩, fun k hk => ⟨?_, ?_⟩, fun k hk hk2 => ?_, fun hk => ?_, fun hk => ?_⟩, hB⟩
  · have := hk.2; simp only [World.size_alloc]; omega
  · have := hk.1; omega
  · have := hk.2; simp only [World.size_alloc]; omega
  · have := hk.2; have := hk2.1; omega
  · have := hk.2; omega
  · have := hk.2; omega
end Go.Proofs.YtmnkackkeppheaaGreat
/- package tree: make (Mkdir, Create) -/
namespace Esch
open Go Go.RowKit
end Esch
namespace Go.Proofs.YtmnkackkeppheaaGreat
open Go.RowKit Esch Go.Shelf

end Go.Proofs.YtmnkackkeppheaaGreat
/- package tree: Rename -/
namespace Esch
open Go Go.RowKit
end Esch
namespace Go.Proofs.YtmnkackkeppheaaGreat
open Go.RowKit Esch Go.Shelf

end Go.Proofs.YtmnkackkeppheaaGreat
/- package tree: Rename, from outside -/
namespace Go.Proofs.YtmnkackkeppheaaGreat
open Go.RowKit Esch Go.Shelf

end Go.Proofs.YtmnkackkeppheaaGreat
/- package tree: Link -/
namespace Go.Proofs.YtmnkackkeppheaaGreat
open Go.RowKit Esch Go.Shelf

end Go.Proofs.YtmnkackkeppheaaGreat
/- package inode: Truncate, Open -/
namespace Esch
open Go Go.RowKit
end Esch
namespace Go.Proofs.YtmnkackkeppheaaGreat
open Go.RowKit Esch Go.Shelf

end Go.Proofs.YtmnkackkeppheaaGreat
/- package tree: Link, Truncate -/
namespace Esch
open Go Go.RowKit
theorem TreeAt.wide {w : World} {b : Nat} {S T : Nat → Prop} {s : TrS} (h : TreeAt w b S s) (hS : ∀ k, S k → T k) (hl : ∀ k, T k → k < w.heap.size) : TreeAt w b T s := by
  obtain ⟨sb, lt, ib, nb, S1, S2, c0, c1, ht, hn, s1, s2, d, b1, b2⟩ := h
  exact ⟨hS b sb, hl, ib, nb, S1, S2, c0, c1, ht, hn, fun k hk => hS k (s1 k hk), fun k hk => hS k (s2 k hk), d, b1, b2⟩
theorem TreeAt.grow {w : World} {b : Nat} {S : Nat → Prop} {s : TrS} (h : TreeAt w b S s) (w0 : World) : TreeAt w b (growI S w0 w) s := h.wide (fun _ => Or.inl) (fun k hk => hk.elim (h.lt k) (fun h => h.2))
/-- the inodes alone were written, and more has come -/
theorem TreeAt.tabG {w w' : World} {b ib nb : Nat} {S S1 S2 : Nat → Prop} {s : TrS} {t' : TabS} (sb : S b) (lt : ∀ k, S k → k < w.heap.size) (c0 : w.cell? ⟨b, 0, none⟩ = some (.pointer (some ⟨ib, 0, none⟩))) (c1 : w.cell? ⟨b, 1, none⟩ = some (.pointer (some ⟨nb, 0, none⟩)))
    (hn : DirAt w nb S2 s.n) (s1 : ∀ k, S1 k → S k) (s2 : ∀ k, S2 k → S k) (d : ∀ k, S1 k → ¬ S2 k) (b1 : ¬ S1 b) (b2 : ¬ S2 b) (ht : TabAt w' ib (growI S1 w w') t') (hM : Mod S1 w w') : TreeAt w' b (growI S w w') ⟨t', s.n⟩ ∧ Mod S w w' :=
  ⟨⟨Or.inl sb, fun k hk => hk.elim (fun hk => Nat.lt_of_lt_of_le (lt k hk) hM.size) (fun h => h.2), ib, nb, growI S1 w w', S2, hM.at c0 b1, hM.at c1 b1, ht, hn.mod hM (fun k hk h => d k h hk), fun k hk => hk.imp (s1 k) id, fun k hk => Or.inl (s2 k hk), fun k hk h2 => hk.elim (fun h => d k h h2) (fun h => absurd (lt k (s2 k h2)) (Nat.not_lt.2 h.1)), fun hk => hk.elim b1 (fun h => absurd (lt b sb) (Nat.not_lt.2 h.1)), b2⟩, hM.mono fun k _ hk => s1 k hk⟩
end Esch
namespace Go.Proofs.YtmnkackkeppheaaGreat
open Go.RowKit Esch Go.Shelf

end Go.Proofs.YtmnkackkeppheaaGreat
/- package tree: Rmdir, Unlink -/
namespace Go.Proofs.YtmnkackkeppheaaGreat
open Go.RowKit Esch Go.Shelf

end Go.Proofs.YtmnkackkeppheaaGreat
/- package tree: Find, Stat, List, Inodes, Names -/
namespace Esch
open Go Go.RowKit
end Esch
namespace Go.Proofs.YtmnkackkeppheaaGreat
open Go.RowKit Esch Go.Shelf

end Go.Proofs.YtmnkackkeppheaaGreat
/- package extent: joined -/
namespace Esch
open Go Go.RowKit
end Esch
namespace Go.Proofs.YtmnkackkeppheaaGreat
open Go.RowKit Esch Go.Shelf

end Go.Proofs.YtmnkackkeppheaaGreat
/- package extent: Put -/
namespace Esch
open Go Go.RowKit
end Esch
namespace Go.Proofs.YtmnkackkeppheaaGreat
open Go.RowKit Esch Go.Shelf

end Go.Proofs.YtmnkackkeppheaaGreat
/- package inode: Write, Open -/
namespace Go.Proofs.YtmnkackkeppheaaGreat
open Go.RowKit Esch Go.Shelf

end Go.Proofs.YtmnkackkeppheaaGreat
/- package tree: List -/
namespace Go.Proofs.YtmnkackkeppheaaGreat
open Go.RowKit Esch Go.Shelf

end Go.Proofs.YtmnkackkeppheaaGreat
/- package inode: Parts -/
namespace Go.Proofs.YtmnkackkeppheaaGreat
open Go.RowKit Esch Go.Shelf

set_option linter.unusedSimpArgs false
/-- parts in memory of their own, or none -/
def PtsPost (w : World) (l : List PtS) (e : Ending) (w' : World) : Prop := ∃ a c, e = .returned (.slice a l.length c) ∧ PtsAt w' (fun k => w.heap.size ≤ k ∧ k < w'.heap.size) a l ∧ l.length ≤ c ∧ c ≤ 9223372036854775807 ∧ (l.length = 0 → a = none → c = 0) ∧ Below w.heap.size w w'
set_option maxRecDepth 100000 in
set_option maxHeartbeats 2000000 in
theorem ptClone_any (w : World) (S : Nat → Prop) (a : Option Addr) (c : Nat) (l : List PtS) (h : PtsAt w S a l) (hn : l.length = 0 → a = none → c = 0) (hl : l.length ≤ 100000) :
    Calls Tryz.prog 77 #[.slice a l.length c] w (PtsPost w l) := by
  have q22 : ∀ (w : World) (a : Option Addr) (n c n' c' : Nat), (binOp .eql 90 (.slice a n c) (.slice none n' c')).run Tryz.prog w = .ok (.bool a.isNone) w := fun w a n c n' c' => Lib.run_eql_slice_nil w _ _ a n c n' c' Tryz.underlying90
  obtain ⟨j0, hi, hy0, hy1, hy2⟩ := info_parts Tryz.infoPart
  cases a with
  | none =>
    have h0 : l.length = 0 := by
      cases l with
      | nil => rfl
      | cons x l =>
        obtain ⟨b, o, e, -⟩ := h.at' (by simp)
        cases e
    obtain rfl : l = [] := List.length_eq_zero_iff.1 h0
    go_enter Tryz.func77, Tryz.ntmps77
    go_wp2_with fail
    go_ret
    exact ⟨none, 0, rfl, RwAt.nil _ _ _ _, Nat.le_refl _, by decide, fun _ _ => rfl, Below.refl _ _⟩
  | some ad =>
    have HX := Lib.hid h
    have HL := Lib.hid hl
    clear h hn hl
    go_enter Tryz.func77, Tryz.ntmps77
    go_wp2_with (at_builtin; refine wpList_append_g (by rfl) (.tmp 5) (.tmp 6) 90 90 (by rfl) 94 j0 _ 32 Tryz.underlying90 hi hy0 hy1 hy2 (by rfl) (by rfl) (GRowAt.nil _ none' 4 _) _ l.length (l.flatMap ptC) (by rfl) ((HX.out.below' (w' := w.alloc (.cells #[] 94)) (by exact belC (Below.refl _ _))).src Tryz.underlying90 (ptC_one l) c (fun _ h => by cases h)) (by have := HL.out; omega) (by have := HL.out; omega) ?_; intro a6 cap6 w6 hg6 hM6 hz6)
    simp only [Nat.zero_add, List.nil_append] at hg6
    have hB : Below w.heap.size w w6 := (show Below w.heap.size w (w.alloc (.cells #[] 94)) by exact belC (Below.refl _ _)).trans (hM6.below_at (by simp) (fun k hk h => h.elim))
    have HG := Lib.hid hg6
    have HB := Lib.hid hB
    clear hg6 hM6 hz6 hB
    go_wp2_with fail
    go_ret
    refine ⟨a6, cap6, rfl, HG.out.row.sub (fun k hk h => ⟨?_, hk⟩), HG.out.le, HG.out.max, fun h0 e => ?_, HB.out⟩
    · rcases h with h | h
      · exact h.elim
      · rw [h]; simp
    · by_cases hc : 0 < cap6
      · obtain ⟨b, o, e2, -⟩ := HG.out.at' hc
        rw [e] at e2; cases e2
      · omega
end Go.Proofs.YtmnkackkeppheaaGreat
