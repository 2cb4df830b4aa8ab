import Derived.Test.YtpfcomepecgcmaaGreatDoorPkIno
import Derived.Test.YtpfcomepecgcmaaGreatDoorShelf2
import Derived.Test.YtpfcomepecgcmaaGreatDoorShelf3
import Derived.RangeFuncGives
import Derived.Shelf.AbstractIn
import Derived.OwnWalkIn
import Derived.TacticsInMore
import Derived.LoopNIn
import Derived.LoopIn
import Derived.RegionIn
import Derived.Test.YtpfcomepecgcmaaGreatDoorPkDir
import Derived.Test.YtpfcomepecgcmaaGreatDoorPkExt
import Derived.Defers
import Derived.Recover
/- package inode: All, the numbers of the inodes, rising -/
namespace Esch
open Go Go.RowKit
/-- numbers in memory -/
def NumsAt (S : Nat → Prop) (w : World) (a : Option Addr) (l : List Int) : Prop :=
  0 < l.length → ∃ b off, a = some ⟨b, off, none⟩ ∧ S b ∧ b < w.heap.size ∧ ∀ i, i < l.length → w.cell? ⟨b, off + i, none⟩ = some (.int .i64 (l.getD i 0))
theorem NumsAt.nil (S : Nat → Prop) (w : World) (a : Option Addr) : NumsAt S w a [] := fun h => absurd h (by simp)
theorem NumsAt.sub {S T : Nat → Prop} {w : World} {a : Option Addr} {l : List Int} (h : NumsAt S w a l) (hS : ∀ k, k < w.heap.size → S k → T k) : NumsAt T w a l := fun h0 => by
  obtain ⟨b, off, e, hb, hl, hc⟩ := h h0
  exact ⟨b, off, e, hS b hl hb, hl, hc⟩
theorem owns_nums {w : World} {B : Nat} {e : TypeId} {v : Value} {l : List Int} {n : Nat} (h : w.ownsRow B e 1 v n (l.map (Value.int .i64))) : ∃ a c, v = .slice a l.length c ∧ NumsAt (From B) w a l ∧ CapN l.length c := by
  obtain ⟨hl, h⟩ := h
  simp only [List.length_map, Nat.mul_one] at hl
  subst hl
  rcases h with ⟨rfl, h0⟩ | ⟨g, cap, cur, rfl, hb, hg, hc, hcm, hs, ht⟩
  · have : l = [] := List.length_eq_zero_iff.1 h0
    subst this
    exact ⟨none, 0, rfl, NumsAt.nil _ _ _, by simp, by omega⟩
  · refine ⟨_, cap, rfl, fun h0 => ⟨g, 0, rfl, hb, block_lt hg, fun i hi => ?_⟩, hc, (by unfold Go.maxLen at hcm; omega)⟩
    have h1 : cur[i]? = some (.int .i64 (l.getD i 0)) := by
      have : (cur.toList.take (l.length * 1))[i]? = (l.map (Value.int .i64))[i]? := by rw [ht]
      rw [List.getElem?_take, if_pos (by omega), Array.getElem?_toList, List.getElem?_map, List.getElem?_eq_getElem hi] at this
      rw [this, List.getD_eq_getElem?_getD, List.getElem?_eq_getElem hi]; rfl
    rw [show (⟨g, 0 + i, none⟩ : Addr) = ⟨g, i, none⟩ by rw [Nat.zero_add]]
    simp [World.cell?, hg, h1]
def sortI (l : List Int) : List Int := l.mergeSort fun x y => decide (x ≤ y)
end Esch
namespace Go.Proofs.YtpfcomepecgcmaaGreatDoor
open Go.RowKit Esch Go.Shelf Go.Sort Go.Maps Go.Lib
attribute [local go_sem] Oper.semAt_some

set_option maxHeartbeats 1000000 in
theorem insNil (w : World) (a : Option Addr) (c : Nat) : Calls Tryz.prog 163 #[.slice a 0 c, .int .i64 0, .int .i64 0] w fun e w' => e = .returned (.tuple #[]) ∧ w' = w := by
  go_enter Tryz.func163, Tryz.ntmps163
  go_wp2_with fail
  go_loopg [6] 0 (fun g s6 wr => g = 0 ∧ s6 = .int .i64 1 ∧ wr = w)
  case atStart => exact ⟨rfl, rfl, rfl⟩
  case round =>
    obtain ⟨rfl, rfl, rfl⟩ := hrel
    go_wp2_with fail
    go_end0
    exact ⟨rfl, rfl⟩
theorem len640 (w : World) : Calls Tryz.prog 132 #[.int .u64 0] w fun e w' => ∃ n : Int, e = .returned (.int .i64 n) ∧ w' = w := by
  go_enter Tryz.func132, Tryz.ntmps132
  go_wp2_with fail
  go_ret
  exact ⟨_, rfl, rfl⟩
theorem len0 (w : World) : Calls Tryz.prog 97 #[.int .u64 0] w fun e w' => ∃ n : Int, e = .returned (.int .i64 n) ∧ w' = w := by
  go_enter Tryz.func97, Tryz.ntmps97
  go_wp2_with fail
  refine (len640 _).mono ?_
  rintro e w1 ⟨n, rfl, rfl⟩
  go_wp2_with fail
  go_ret
  exact ⟨n, rfl, rfl⟩
set_option maxRecDepth 100000 in
set_option maxHeartbeats 1000000 in
theorem pdqNil (w : World) (a : Option Addr) (c : Nat) (n : Int) : Calls Tryz.prog 146 #[.slice a 0 c, .int .i64 0, .int .i64 0, .int .i64 n] w fun e w' => e = .returned (.tuple #[]) ∧ w' = w := by
  go_enter Tryz.func146, Tryz.ntmps146
  go_wp2_with fail
  go_loopg [1, 2] 0 (fun g s1 s2 wr => g = 0 ∧ s1 = .int .i64 0 ∧ s2 = .int .i64 0 ∧ wr = w)
  case atStart => exact ⟨rfl, rfl, rfl, rfl⟩
  case round =>
    obtain ⟨rfl, rfl, rfl, rfl⟩ := hrel
    go_wp2_with fail
    refine (insNil _ a c).mono ?_
    rintro e w1 ⟨rfl, rfl⟩
    go_wp2_with fail
    refine bodyPost_ret (results_none rfl _ _ _) rfl ?_
    exact ⟨rfl, rfl⟩
theorem sortNil (w : World) (a : Option Addr) (c : Nat) : Calls Tryz.prog 119 #[.slice a 0 c] w fun e w' => e = .returned (.tuple #[]) ∧ w' = w := by
  go_enter Tryz.func119, Tryz.ntmps119
  go_wp2_with fail
  refine (len0 _).mono ?_
  rintro e w1 ⟨n, rfl, rfl⟩
  go_wp2_with fail
  refine (pdqNil _ a c n).mono ?_
  rintro e w1 ⟨rfl, rfl⟩
  go_wp2_with fail
  go_end0
  exact ⟨rfl, rfl⟩
theorem sortsIn (n : Nat) : AnyZI.SortsIn Tryz.prog Tryz.sorted6_ren Fence.wide n :=
  ⟨fun blk off cap ss W hH hblk hsz => callsIn_wide.2 (Any.slices_Sort_int Tryz.lays189 blk off cap ss W hH hblk hsz),
   fun p cap W => callsIn_wide.2 (sortNil W p cap)⟩
set_option maxHeartbeats 1000000 in
theorem keysI_in (F : Fence) (n : Nat) (h7 : F.fn 92) (hro : F.round = none) (mb : Option Nat) (w : World) :
    CallsIn F n Tryz.prog 92 #[.map mb] w fun e w' => e = .returned (.func (.func 120) #[] #[.pointer (some ⟨w.heap.size, 0, none⟩)]) ∧ w' = w.alloc (.cells #[.map mb] 134) := by
  refine callsIn_of_wp Tryz.func92 rfl h7 ?_ hro
  simp only [Tryz.ntmps92, List.size_toArray, List.length_cons, List.length_nil, Nat.reduceAdd, Nat.reduceSub, Array.replicate_succ, Array.replicate_zero, List.push_toArray, List.append_toArray, List.nil_append, List.cons_append]
  gi_wp2
  go_ret
  exact ⟨rfl, rfl⟩
set_option maxRecDepth 100000 in
set_option maxHeartbeats 1000000 in
theorem keysI_gives (F : Fence) (n : Nat) (h10 : F.fn 120) (hro : F.round = none) (hn : 1 ≤ n) (Bm b : Nat) (m : List (Int × InC)) (w : World) (hBm : Bm < w.heap.size) (hm : w.cell? ⟨Bm, 0, none⟩ = some (.map (some b))) (hmp : MpAt w b iV inCV m) :
    SeqGives F n Tryz.prog 120 #[.pointer (some ⟨Bm, 0, none⟩)] encZ (fun ss => ss.Perm (m.map (·.1))) m.length w := by
  intro l J W hBW hJ hY h0
  have hm := below_at hBW hm hBm
  have hmp := hmp.mod (F := none') (Mod.of_below hBW) id
  obtain ⟨es, clock, hown⟩ := hmp
  show CallsIn F n Tryz.prog 120 #[.func (.yield l) #[] #[], .pointer (some ⟨Bm, 0, none⟩)] W _
  refine callsIn_of_wp Tryz.func120 rfl h10 ?_ hro
  simp only [Tryz.ntmps120, List.size_toArray, List.length_cons, List.length_nil, Nat.reduceAdd, Nat.reduceSub, Array.replicate_succ, Array.replicate_zero, List.push_toArray, List.append_toArray, List.nil_append, List.cons_append]
  gi_wp2_with (first
    | (gi_at_range; refine wpListIn_range_map rfl _ _ rfl _ _ Tryz.underlying134 rfl hown ?_; intro w0 hrg0 e0)
    | gi_in)
  go_frame
  have hg0 : W.grownBy w0 none := by rw [e0]; exact World.grownBy_alloc _ _ _
  clear e0
  gi_loopw [3] (fun _ wr => ∃ (left : List (Int × InC)) (ss : List Int), Ranges wr b W.heap.size iV inCV m left ∧ ss.length + left.length = m.length ∧ (ss ++ left.map (·.1)).Perm (m.map (·.1)) ∧ J ss wr)
    (fun _ wr => wr.rangeLeft b W.heap.size)
  case atStart => exact ⟨m, [], hrg0, by simp, by simp, hJ [] W w0 none h0 hg0 (fun r e => by cases e)⟩
  case round =>
    obtain ⟨left, ss, hrg, hcs, hC, hJs⟩ := hrel
    have HC := Lib.hid hC
    have hlen : ss.length ≤ m.length := by omega
    have Hcs := Lib.hid hcs
    clear hC hcs
    gi_wp2_with (first
      | (gi_at_next; refine wpListIn_next_map rfl _ rfl rfl hrg ?_ ?_)
      | gi_in)
    · intro hl0
      have HL := Lib.hid hl0
      clear hl0
      gi_wp2
      go_end0
      exact ⟨⟨_, rfl⟩, ss, by have := HC.out; rw [HL.out] at this; simpa using this, hJs⟩
    · intro pre x c post w2 hl hrg2 hg2 hs2 hen
      have HL := Lib.hid hl
      have hlt : ss.length < m.length := by have := Hcs.out; rw [hl] at this; simp at this; omega
      simp only [iV, inCV] at hen ⊢
      have hJ2 : J ss w2 := hJ ss wr w2 (some W.heap.size) hJs hg2 (fun r e => by cases e; exact ⟨Nat.le_refl _, hrg.walk⟩)
      obtain ⟨fn, tmps, assign, body, hy, hR⟩ := hY ss x _ hJ2 hlt
      clear hs2 hl
      gi_wp2
      refine hR.mono ?_
      rintro e W3 ⟨rfl, hJ3, hk3⟩
      gi_wp2
      have hrg3 := hrg2.of_walks hk3
      go_roundw
      case rel => exact ⟨pre ++ post, ss ++ [x], hrg3, by have := Hcs.out; rw [HL.out] at this; simp at this ⊢; omega, by
        refine List.Perm.trans ?_ HC.out
        rw [HL.out]
        simp only [List.map_append, List.map_cons, List.append_assoc, List.singleton_append]
        exact List.Perm.append_left ss List.perm_middle.symm, hJ3⟩
      case measure => rw [hrg3.left_eq, hrg.left_eq, HL.out]; simp
def AllPost (w : World) (m : List (Int × InS)) (e : Ending) (w' : World) : Prop :=
  ∃ a c, e = .returned (.slice a (sortI (m.map (·.1))).length c) ∧ NumsAt (From w.heap.size) w' a (sortI (m.map (·.1))) ∧ CapN (sortI (m.map (·.1))).length c ∧ Below w.heap.size w w'
set_option maxRecDepth 100000 in
set_option maxHeartbeats 2000000 in
theorem inoAll_any (w : World) (b : Nat) (S : Nat → Prop) (s : TabS) (h : TabAt w b S s) (hl : s.m.length ≤ 100000) :
    Calls Tryz.prog 60 #[.pointer (some ⟨b, 0, none⟩)] w (AllPost w s.m) := by
  obtain ⟨sb, lt, mb, mc, c0, c1, f1, hm, sm, n1, hv, -⟩ := h
  have hk : s.m.map (·.1) = mc.map (·.1) := by rw [← hv, List.map_map]; rfl
  have hll : s.m.length = mc.length := by rw [← hv, List.length_map]
  unfold AllPost
  rw [hk]
  rw [hll] at hl
  have hB1 : Below w.heap.size w (w.alloc (.cells #[.map (some mb)] 134)) := by exact belC (Below.refl _ _)
  have hseq : SeqGives Fence.wide 2 Tryz.prog 120 #[.pointer (some ⟨w.heap.size, 0, none⟩)] encZ (fun ss => ss.Perm (mc.map (·.1))) mc.length (w.alloc (.cells #[.map (some mb)] 134)) :=
    keysI_gives Fence.wide 2 trivial rfl (by omega) w.heap.size mb mc _ (by simp) (by go_simp) (hm.mod (F := none') (Mod.of_below hB1) id)
  have cK : ∀ mb W, CallsIn Fence.wide 5 Tryz.prog 92 #[.map mb] W fun e w' => e = .returned (.func (.func 120) #[] #[.pointer (some ⟨W.heap.size, 0, none⟩)]) ∧ w' = W.alloc (.cells #[.map mb] 134) := fun mb W => keysI_in Fence.wide 5 trivial rfl mb W
  have cS := AnyZI.sorted_in Tryz.sorted6 Fence.wide 5 trivial trivial trivial trivial rfl (by omega) (sortsIn _) (enters_of Tryz.func119 (by kernel_rfl) rfl) 120 #[.pointer (some ⟨w.heap.size, 0, none⟩)] trivial (enters_of Tryz.func120 (by kernel_rfl) rfl) _ mc.length (by unfold Go.maxLen; omega) (by omega) _ hseq
  change CallsIn _ _ Tryz.prog 91 _ _ _ at cS
  have cS2 := (callsIn_wide).1 cS
  have cK2 := fun mb W => (callsIn_wide).1 (cK mb W)
  clear cS cK hseq c1 f1 hl lt hm hv hk hll
  go_enter Tryz.func60, Tryz.ntmps60
  go_wp2_with fail
  refine (cK2 _ _).mono ?_
  rintro e w1 ⟨rfl, rfl⟩
  go_wp2_with fail
  refine cS2.mono ?_
  clear cS2
  rintro e w2 ⟨v, ss, rfl, hS, hrow, -, hB⟩
  have hss : ss.mergeSort (fun x y => decide (x ≤ y)) = sortI (mc.map (·.1)) := mergeSort_of_perm_i hS
  rw [hss] at hrow
  obtain ⟨a, c, rfl, h1, h2⟩ := owns_nums (n := ss.length) (by simpa using hrow)
  go_wp2_with fail
  go_ret
  refine ⟨a, c, rfl, h1.sub (fun k _ hk => ?_), h2, hB1.trans (hB.mono (by simp))⟩
  have hk : w.heap.size + 1 ≤ k := hk
  show w.heap.size ≤ k
  omega
end Go.Proofs.YtpfcomepecgcmaaGreatDoor
/- package tree: stop, kind, resolve, place -/
namespace Esch
open Go Go.RowKit
structure TreeAt (w : World) (b : Nat) (S : Nat → Prop) (s : TrS) : Prop where
  sb : S b
  lt : ∀ k, S k → k < w.heap.size
  ex : ∃ ib nb S1 S2, w.cell? ⟨b, 0, none⟩ = some (.pointer (some ⟨ib, 0, none⟩)) ∧ w.cell? ⟨b, 1, none⟩ = some (.pointer (some ⟨nb, 0, none⟩)) ∧ TabAt w ib S1 s.t ∧ DirAt w nb S2 s.n ∧
    (∀ k, S1 k → S k) ∧ (∀ k, S2 k → S k) ∧ (∀ k, S1 k → ¬ S2 k) ∧ ¬ S1 b ∧ ¬ S2 b
theorem TreeAt.mod {w w' : World} {b : Nat} {S F : Nat → Prop} {s : TrS} (h : TreeAt w b S s) (hM : Mod F w w') (hF : ∀ k, S k → ¬ F k) : TreeAt w' b S s := by
  obtain ⟨sb, lt, ib, nb, S1, S2, c0, c1, ht, hn, s1, s2, d, b1, b2⟩ := h
  exact ⟨sb, fun k hk => Nat.lt_of_lt_of_le (lt k hk) hM.size, ib, nb, S1, S2, hM.at c0 (hF b sb), hM.at c1 (hF b sb), ht.mod hM (fun k hk => hF k (s1 k hk)), hn.mod hM (fun k hk => hF k (s2 k hk)), s1, s2, d, b1, b2⟩
theorem TreeAt.below' {w w' : World} {b : Nat} {S : Nat → Prop} {s : TrS} (h : TreeAt w b S s) (hB : Below w.heap.size w w') : TreeAt w' b S s := h.mod (F := none') (Mod.of_below hB) fun _ _ => id
end Esch
namespace Go.Proofs.YtpfcomepecgcmaaGreatDoor
open Go.RowKit Esch Go.Shelf

theorem trKind_any (w : World) (b : Nat) (S : Nat → Prop) (s : TrS) (h : TreeAt w b S s) (i : Int) :
    Calls Tryz.prog 140 #[.pointer (some ⟨b, 0, none⟩), .int .i64 i] w fun e w' => e = .returned (.int .i64 (s.kind i)) ∧ Below w.heap.size w w' := by
  obtain ⟨sb, lt, ib, nb, S1, S2, c0, c1, ht, hn, s1, s2, d, b1, b2⟩ := h
  have hs := inoStat_any w ib S1 s.t ht i
  unfold TrS.kind
  obtain ⟨⟨x0, x1, x2, x3, x4, xp⟩, hx⟩ : ∃ x, x = s.t.at i := ⟨_, rfl⟩
  rw [← hx] at hs ⊢
  simp only [statV] at hs ⊢
  clear hx ht hn
  go_enter Tryz.func140, Tryz.ntmps140
  go_wp2_with fail
  refine hs.mono ?_
  clear hs
  rintro e W2 ⟨rfl, hB2⟩
  have hz := hB2.size
  go_wp2_with fail
  go_ret
  exact ⟨rfl, by exact belC hB2⟩
end Go.Proofs.YtpfcomepecgcmaaGreatDoor
/- package tree: place -/
namespace Go.Proofs.YtpfcomepecgcmaaGreatDoor
open Go.RowKit Esch Go.Shelf

end Go.Proofs.YtpfcomepecgcmaaGreatDoor
/- package tree: tries, a call that a panic of the tree's own may end -/
namespace Go.Proofs.YtpfcomepecgcmaaGreatDoor
open Go.RowKit Esch Go.Shelf

end Go.Proofs.YtpfcomepecgcmaaGreatDoor
/- package tree: New, full, add, drop -/
namespace Esch
open Go Go.RowKit
end Esch
namespace Go.Proofs.YtpfcomepecgcmaaGreatDoor
open Go.RowKit Esch Go.Shelf

theorem trNew_any (w : World) : Calls Tryz.prog 24 #[] w fun e w' => ∃ b, e = .returned (.pointer (some ⟨b, 0, none⟩)) ∧ TreeAt w' b (fun k => w.heap.size ≤ k ∧ k < w'.heap.size) tr0 ∧ Below w.heap.size w w' := by
  go_enter Tryz.func24, Tryz.ntmps24
  go_wp2_with fail
  refine (inoNew_any _).mono ?_
  rintro e w1 ⟨ib, rfl, ht, hB1⟩
  have HT := Lib.hid ht
  have HB1 := Lib.hid hB1
  clear ht hB1
  go_wp2_with fail
  refine (dirNew_any _).mono ?_
  rintro e w2 ⟨nb, rfl, hn, hB2⟩
  have HN := Lib.hid hn
  have HB2 := Lib.hid hB2
  clear hn hB2
  go_wp2_with fail
  go_ret
  have h1 := HB1.out.size
  have h2 := HB2.out.size
  have hBn : Below w2.heap.size w2 (w2.alloc (.cells #[.pointer (some ⟨ib, 0, none⟩), .pointer (some ⟨nb, 0, none⟩)] 125)) := by exact belC (Below.refl _ _)
  have hB : Below w.heap.size w (w2.alloc (.cells #[.pointer (some ⟨ib, 0, none⟩), .pointer (some ⟨nb, 0, none⟩)] 125)) := (HB1.out.trans (HB2.out.mono h1)).trans (hBn.mono (by omega))
  refine ⟨w2.heap.size, rfl, ⟨⟨by omega, by simp⟩, fun k hk => hk.2, ib, nb, _, _, by go_simp, by go_simp, (HT.out.below' HB2.out).below' hBn, HN.out.below' hBn, fun k hk => ⟨hk.1, ?_⟩, fun k hk => ⟨?_, ?_⟩, fun k hk hk2 => ?_, fun hk => ?_, fun hk => ?_⟩, hB⟩
  · have := hk.2; simp only [World.size_alloc]; omega
  · have := hk.1; omega
  · have := hk.2; simp only [World.size_alloc]; omega
  · have := hk.2; have := hk2.1; omega
  · have := hk.2; omega
  · have := hk.2; omega
end Go.Proofs.YtpfcomepecgcmaaGreatDoor
/- package tree: make (Mkdir, Create) -/
namespace Esch
open Go Go.RowKit
theorem Mod.at' {S : Nat → Prop} {w w' : World} (h : Mod S w w') {b o : Nat} {v : Value} (hc : w.cell? ⟨b, o, none⟩ = some v) (hb : ¬ S b) : w'.cell? ⟨b, o, none⟩ = some v := h.at hc hb
end Esch
namespace Go.Proofs.YtpfcomepecgcmaaGreatDoor
open Go.RowKit Esch Go.Shelf

end Go.Proofs.YtpfcomepecgcmaaGreatDoor
