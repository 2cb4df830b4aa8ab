/- the units of a projection, rising -/
import Derived.Test.YtghdhhbpbmhooaaGreatPkKeep
import Derived.Test.YtghdhhbpbmhooaaGreatShelf
import Derived.RangeFuncNested
import Derived.RangeFuncBound
import Derived.RangeFuncCalls
import Derived.RangeFuncLeaves
import Derived.RangeFuncStops
import Derived.RangeFuncBox
import Derived.Shelf.Abstract
import Derived.Shelf.RegionOpen
import Derived.OwnWalkIn
import Derived.TacticsInMore
import Derived.LoopNIn
import Derived.LoopIn
import Derived.RegionIn
import Derived.Maps.AppendAt
namespace Go.Proofs.YtghdhhbpbmhooaaGreat
open Go.RowKit Go.Shelf Esch
attribute [local go_sem] Oper.semAt_some

set_option maxHeartbeats 1000000 in
theorem keys_in (F : Fence) (n : Nat) (h7 : F.fn 77) (hro : F.round = none) (mb : Option Nat) (w : World) :
    CallsIn F n Tryz.prog 77 #[.map mb] w fun e w' => e = .returned (.func (.func 99) #[] #[.pointer (some ⟨w.heap.size, 0, none⟩)]) ∧ w' = w.alloc (.cells #[.map mb] 141) := by
  refine callsIn_of_wp Tryz.func77 rfl h7 ?_ hro
  simp only [Tryz.ntmps77, List.size_toArray, List.length_cons, List.length_nil, Nat.reduceAdd, Nat.reduceSub, Array.replicate_succ, Array.replicate_zero, List.push_toArray, List.append_toArray, List.nil_append, List.cons_append]
  gi_wp2
  go_ret
  exact ⟨rfl, rfl⟩

set_option maxRecDepth 100000 in
set_option maxHeartbeats 1000000 in
theorem keys1_in (F : Fence) (n : Nat) (h10 : F.fn 99) (hro : F.round = none) (hn : 1 ≤ n) (l Bm b : Nat) (m : List (Int × Int)) (es : Array MapEntry) (clock : Nat) (J Jx : List Int → World → Prop)
    (hY : ∀ pre x W, J pre W → pre.length < m.length → YieldAt F (n - 1) Tryz.prog l #[.agg #[.int .i64 x]] W fun e W' =>
      (e = .returned (.bool true) ∧ J (pre ++ [x]) W' ∧ KeepsWalks W W') ∨ (e = .returned (.bool false) ∧ Jx (pre ++ [x]) W'))
    (W : World) (hJ : AbidesFrom W.heap.size J) (hm : W.cell? ⟨Bm, 0, none⟩ = some (.map (some b))) (hown : MapAt W b κs1 κint m es clock) (h0 : J [] W) :
    CallsIn F n Tryz.prog 99 #[.func (.yield l) #[] #[], .pointer (some ⟨Bm, 0, none⟩)] W fun e W' => (∃ v, e = .returned v) ∧
      ((∃ ss : List Int, ss.Perm (m.map (·.1)) ∧ J ss W') ∨ (∃ pre : List Int, True ∧ Jx pre W')) := by
  refine callsIn_of_wp Tryz.func99 rfl h10 ?_ hro
  simp only [Tryz.ntmps99, List.size_toArray, List.length_cons, List.length_nil, Nat.reduceAdd, Nat.reduceSub, Array.replicate_succ, Array.replicate_zero, List.push_toArray, List.append_toArray, List.nil_append, List.cons_append]
  gi_wp2_with (first
    | (gi_at_range; refine wpListIn_range_map rfl _ _ rfl _ _ Tryz.underlying141 rfl hown ?_; intro w0 hrg0 e0)
    | gi_in)
  go_frame
  have hg0 : W.grownBy w0 none := by rw [e0]; exact World.grownBy_alloc _ _ _
  clear e0
  gi_loopw [3] (fun _ wr => ∃ (left : List (Int × Int)) (ss : List Int), Ranges wr b W.heap.size κs1 κint m left ∧ ss.length + left.length = m.length ∧ (ss ++ left.map (·.1)).Perm (m.map (·.1)) ∧ J ss wr)
    (fun _ wr => wr.rangeLeft b W.heap.size)
  case atStart => exact ⟨m, [], hrg0, by simp, by simp, hJ [] W w0 none h0 hg0 (fun r e => by cases e)⟩
  case round =>
    obtain ⟨left, ss, hrg, hcs, hC, hJs⟩ := hrel
    have HC := Lib.hid hC
    have hlen : ss.length ≤ m.length := by omega
    have Hcs := Lib.hid hcs
    clear hC hcs
    gi_wp2_with (first
      | (gi_at_next; refine wpListIn_next_map rfl _ rfl rfl hrg ?_ ?_)
      | gi_in)
    · intro hl0
      have HL := Lib.hid hl0
      clear hl0
      gi_wp2
      go_end0
      exact ⟨⟨_, rfl⟩, .inl ⟨ss, by have := HC.out; rw [HL.out] at this; simpa using this, hJs⟩⟩
    · intro pre x c post w2 hl hrg2 hg2 hs2 hen
      have HL := Lib.hid hl
      have hlt : ss.length < m.length := by have := Hcs.out; rw [hl] at this; simp at this; omega
      simp only [κs1, κint] at hen ⊢
      have hJ2 : J ss w2 := hJ ss wr w2 (some W.heap.size) hJs hg2 (fun r e => by cases e; exact ⟨Nat.le_refl _, hrg.walk⟩)
      have hJ3 : J ss (w2.alloc (.cells #[.int .i64 x] 144)) := hJ ss w2 _ none hJ2 (World.grownBy_alloc _ _ _) (fun r e => by cases e)
      obtain ⟨fn, tmps, assign, body, hy, hR⟩ := hY ss x _ hJ3 hlt
      clear hs2 hl
      gi_wp2
      refine hR.mono ?_
      rintro e W3 (⟨rfl, hJ3, hk3⟩ | ⟨rfl, hJx3⟩)
      · gi_wp2
        have hrg3 := (hrg2.of_walks (KeepsWalks.alloc _ _)).of_walks hk3
        go_roundw
        case rel => exact ⟨pre ++ post, ss ++ [x], hrg3, by have := Hcs.out; rw [HL.out] at this; simp at this ⊢; omega, by
          refine List.Perm.trans ?_ HC.out
          rw [HL.out]
          simp only [List.map_append, List.map_cons, List.append_assoc, List.singleton_append]
          exact List.Perm.append_left ss List.perm_middle.symm, hJ3⟩
        case measure => rw [hrg3.left_eq, hrg.left_eq, HL.out]; simp
      · gi_wp2
        refine bodyPost_ret (results_none rfl _ _ _) rfl ?_
        exact ⟨⟨_, rfl⟩, .inr ⟨ss ++ [x], trivial, hJx3⟩⟩

theorem keys_stops (F : Fence) (n : Nat) (h10 : F.fn 99) (hro : F.round = none) (hn : 1 ≤ n) (Bm b : Nat) (m : List (Int × Int)) (es : Array MapEntry) (clock : Nat) (w : World) (hBm : Bm < w.heap.size)
    (hm : w.cell? ⟨Bm, 0, none⟩ = some (.map (some b))) (hown : MapAt w b κs1 κint m es clock) :
    SeqStopsK F n Tryz.prog 99 #[.pointer (some ⟨Bm, 0, none⟩)] (fun x : Int => #[.agg #[.int .i64 x]]) KeepsWalks (fun ss => ss.Perm (m.map (·.1))) (fun _ => True) m.length w := fun l J Jx W hW hJ _ hY h0 =>
  keys1_in F n h10 hro hn l Bm b m es clock J Jx hY W hJ ((hW.cell (p := ⟨Bm, 0, none⟩) hBm).trans hm) (hown.of_block (hW.block b (block_lt hown.block))) h0

/-- the library's sort, on a row of the call's own -/
def SortPost (w : World) (g : Nat) (l : List Int) (e : Ending) (w' : World) : Prop := e = .returned (.tuple #[]) ∧ Mod (· = g) w w' ∧ ∀ i, i < l.length → w'.cell? ⟨g, 0 + i, none⟩ = some (.int .i64 ((l.mergeSort fun x y => decide (x ≤ y)).getD i 0))
theorem getElem!_getD (l : List Int) (j : Nat) : l.toArray[j]! = l.getD j 0 := by
  simp [List.getD_eq_getElem?_getD, getElem!_def]
  cases l[j]? <;> rfl
theorem sort_any (w : World) (B g c : Nat) (l : List Int) (hO : OwnI w B (.slice (some ⟨g, 0, none⟩) l.length c) l) (hl : l.length ≤ 100000) (h0 : 0 < l.length) :
    Calls Tryz.prog 78 #[.slice (some ⟨g, 0, none⟩) l.length c] w (SortPost w g l) := by
  obtain ⟨a', c', hv, hI, -⟩ := hO.ints
  injection hv with h1 _ _
  subst h1
  obtain ⟨b, off, e, -, hb, hcell⟩ := hI.2 h0
  cases e
  have hfr : ∀ o, w.frozen? ⟨g, o, none⟩ = false := by
    intro o
    rcases hO.2 with ⟨e, -⟩ | ⟨g', cap, cur, e, -, hg, -⟩
    · cases e
    · cases e; simp [World.frozen?, hg]
  have hH : Sort.Holds (Value.int .i64) w g 0 l.toArray := by
    intro j hj
    rw [getElem!_getD]
    exact ⟨hcell j (by simpa using hj), hfr _⟩
  refine (Any.slices_Sort_int Tryz.lays189 g 0 c l w hH hb (by omega)).mono ?_
  rintro e w' ⟨he, n, os, rfl⟩
  refine ⟨he, ⟨rfl, rfl, rfl, by simp, fun k hk hne => ?_⟩, fun i hi => ?_⟩
  · rw [Sort.heap_grow_old _ _ (by simpa using hk)]
    show ((w.heap.modify g _)[k]?) = _
    rw [Array.getElem?_modify, if_neg (fun e => hne e.symm)]
  · rw [Sort.cell?_grow _ _ _ (by simpa using hb)]
    have := (Sort.holds_putRow (Value.int .i64) (Sort.ahead w n) g 0 l.toArray (l.mergeSort fun x y => decide (x ≤ y)).toArray (Sort.holds_ahead _ _ _ _ _ _ hH) (by simp)) i (by simpa using hi)
    rw [this.1, getElem!_getD]
theorem sorted_units {l us : List Int} (hn : l.Nodup) (hm : ∀ x, x ∈ l ↔ x ∈ us) : (l.mergeSort fun x y => decide (x ≤ y)) = unitsOf us := by
  have hp : (l.mergeSort fun x y => decide (x ≤ y)).Perm l := List.mergeSort_perm _ _
  have hs : (l.mergeSort fun x y => decide (x ≤ y)).Pairwise (fun x y => decide (x ≤ y) = true) := List.pairwise_mergeSort (le := fun x y : Int => decide (x ≤ y)) (fun a b c h1 h2 => by simp only [decide_eq_true_eq] at h1 h2 ⊢; omega) (fun a b => by simp only [Bool.or_eq_true, decide_eq_true_eq]; omega) l
  refine eq_unitsOf ?_ (fun x => by rw [hp.mem_iff, hm])
  have hn' := hp.nodup_iff.2 hn
  refine (hs.and hn').imp ?_
  rintro a b ⟨h1, h2⟩
  simp only [decide_eq_true_eq] at h1
  omega

set_option maxRecDepth 100000 in
set_option maxHeartbeats 2000000 in
theorem units_any (S : Nat → Prop) (w : World) (ep : Int) (a : Option Addr) (c : Nat) (ls : List (List Int)) (hs : Small ls) (hne : ls.flatten ≠ []) (h : ListsAt S w a ls) :
    Calls Tryz.prog 48 #[.agg #[.int .i64 ep, .slice a ls.length c]] w (SlicePost w (unitsOf ls.flatten)) := by
  refine (callsIn_wide (n := 10)).1 ?_
  have hmet := met_any S ((w.alloc (.cells #[.int .i64 ep, .slice a ls.length c] 24)).alloc (.cells #[.slice none 0 0] 85)) ep a c ls hs (h.mod ((Mod.refl none' _).alloc _ |>.alloc _) (fun _ _ _ => id))
  have Hs := Lib.hid hs
  have Hne := Lib.hid hne
  clear hs hne h
  refine callsIn_of_wp_marks Tryz.func48 rfl trivial ?_ rfl
  simp only [Tryz.ntmps48, List.size_toArray, List.length_cons, List.length_nil, Nat.reduceAdd, Nat.reduceSub, Array.replicate_succ, Array.replicate_zero, List.push_toArray, List.append_toArray, List.nil_append, List.cons_append]
  gi_wp2_with fail
  refine ⟨trivial, ?_⟩
  refine (callsIn_wide.2 hmet).mono ?_
  clear hmet
  rintro e1 w1 ⟨mb, rfl, ⟨m, es, clock, hm1, hg⟩, hmb, hB⟩
  have Hg := Lib.hid hg
  have Happ := Lib.hid hm1.apart
  clear hg
  gi_wp2_with fail
  refine ⟨trivial, ?_⟩
  refine (keys_in Fence.wide 9 trivial rfl (some mb) _).mono ?_
  rintro e2 w2 ⟨rfl, rfl⟩
  have hmem : ∀ x, x ∈ m.map (·.1) ↔ x ∈ ls.flatten := by
    intro x
    rw [← cntO_some ls.flatten, ← Hg.out x]
    constructor
    · intro h
      obtain ⟨p, hp, rfl⟩ := List.mem_map.1 h
      rw [(mem_iff_get Happ.out p.1 p.2).1 hp]; rfl
    · intro h
      obtain ⟨n, hn⟩ := Option.isSome_iff_exists.1 h
      exact List.mem_map.2 ⟨(x, n), (mem_iff_get Happ.out x n).2 hn, rfl⟩
  have hlen : m.length ≤ 2500 := by
    have h1 := (length_unitsOf_iff (m.map (·.1))).2 Happ.out
    rw [unitsOf_congr hmem, List.length_map] at h1
    have h2 := length_unitsOf ls.flatten
    have h3 := small_flat Hs.out ls.length
    rw [List.take_length] at h3
    omega
  have Hmem := Lib.hid hmem
  clear hmem
  have hsz := hB.size
  simp only [World.size_alloc] at hsz hmb hB
  have bO0 := Boxed.new (w.alloc (.cells #[.int .i64 ep, .slice a ls.length c] 24)) 85 (.slice none 0 0)
  rw [World.size_alloc] at bO0
  have bO : Boxed w1 (w.heap.size + 1) 85 (.slice none 0 0) := (hB.block (w.heap.size + 1) (by omega)).trans bO0
  have hB0 : Below w.heap.size w w1 := (((Below.refl _ w).alloc (Nat.le_refl _) _).alloc (by simp) _).trans (hB.mono (by omega))
  have hB1 := hB0.alloc (by omega) (.cells #[.map (some mb)] 141)
  have bM := Boxed.new w1 141 (.map (some mb))
  have hm2 := hm1.of_block (w' := w1.alloc (.cells #[.map (some mb)] 141)) (alloc_old _ _ _ (block_lt hm1.block))
  obtain ⟨i0, hi, hz0, hz1, hz2⟩ := info_parts Tryz.infoInt
  clear bO0 hB hB0 hm1
  gi_wp2_with fail
  have bO1 := bO.alloc (.cells #[.map (some mb)] 141)
  have hszW : (w1.alloc (.cells #[.map (some mb)] 141)).heap.size = w1.heap.size + 1 := by simp
  obtain ⟨W0, hW0⟩ : ∃ W0, w1.alloc (.cells #[.map (some mb)] 141) = W0 := ⟨_, rfl⟩
  obtain ⟨Bm, hBm⟩ : ∃ Bm, Bm = w1.heap.size := ⟨_, rfl⟩
  obtain ⟨Bl, hBl⟩ : ∃ Bl, Bl = w.heap.size + 1 := ⟨_, rfl⟩
  rw [hW0] at bM hm2 bO1 hB1 hszW ⊢
  rw [← hBm] at bM hszW ⊢
  rw [← hBl] at bO bO1 ⊢
  have hz1 : Bl < W0.heap.size := by omega
  have hz2 : w.heap.size < Bl := by omega
  have hz3 : Bl + 1 ≤ Bm := by omega
  have hBlB := Lib.hid hBl
  clear hW0 hBm bO hBl
  refine wpIn_rangeFunc_ownH (α := Int) rfl (by omega) (gf := 99) (lb := #[.pointer (some ⟨Bm, 0, none⟩)]) rfl trivial (enters_of Tryz.func99 (by kernel_rfl) rfl)
    (keys_stops Fence.wide 9 trivial rfl (by omega) Bm mb m es clock W0 (by omega) bM.cell hm2) walksK_t walksK_b (Below.refl _ _) (fun _ => rfl)
    (fun pre W => (∃ v, Boxed W Bl 85 v ∧ W.ownsRow Bl 3 1 v pre.length (pre.map (Value.int .i64)) ∧ True) ∧ Below w.heap.size w W)
    (fun _ _ _ => False)
    (OwnFrom.and (Own.from (holdsRow_own Bl Bl 85 3 1 (fun pre : List Int => pre.length) (fun pre => pre.map (Value.int .i64)) (fun _ _ => True)) _) (ownFrom_below (Nat.le_refl _) (by omega)))
    (fun _ _ _ _ _ hs _ _ => hs)
    ⟨⟨_, bO1, World.ownsRow_nil _ _ _ _, trivial⟩, hB1⟩
    (fun x a' W => ∃ Bx, Bl < Bx ∧ Boxed W Bx 144 (.int .i64 x) ∧ a' = { tmps := #[.agg #[.int .i64 ep, .slice a ls.length c], .pointer (some ⟨w.heap.size, 0, none⟩), .slice none 0 0, .pointer (some ⟨Bl, 0, none⟩), .pointer (some ⟨Bx, 0, none⟩), .agg #[.int .i64 ep, .slice a ls.length c], .map (some mb), .func (.func 99) #[] #[.pointer (some ⟨Bm, 0, none⟩)], .agg #[.int .i64 x], undef, undef, undef, undef, undef, undef, undef, undef], defers := [] })
    (fun x a' _ X Y row hs hg hr => by obtain ⟨Bx, h1, h2, h3⟩ := hs; exact ⟨Bx, h1, boxed_own Bx 144 (fun (_ : Unit) => Value.int .i64 x) () X Y row h2 hg (fun r e => (hr r e).2), h3⟩)
    ?assign ?body ?done ?stop
  case assign =>
    rintro l pre x W K ⟨⟨v, hv, hrow, -⟩, hB⟩ hK
    gi_wp2
    exact hK _ _ ((KeepsOthers.alloc _ _).from _) (KeepsWalks.alloc _ _) ⟨⟨v, hv.alloc _, hrow.alloc _, trivial⟩, hB.alloc hB.size _⟩ ⟨W.heap.size, hv.lt, Boxed.new W 144 _, rfl⟩
  case body =>
    rintro l pre x a' W hl ⟨r, hr⟩ ⟨⟨v, hv, hrow, -⟩, hB⟩ ⟨Bx, hBx, bX, rfl⟩ hlt
    have hc := hv.cell
    have hcx := bX.cell
    have hzW := hB.size
    have hBlW := hv.lt
    gi_wp2_with (gi_at_builtin; refine wpListIn_append_own _ rfl _ _ 85 rfl Bl 3 i0 (.int .i64 0) 1 8 Tryz.underlying85 hi hz0 ‹_› ‹_› rfl (by decide) _ _ _ rfl (hrow.alloc _) ⟨W.heap.size, 0, none⟩ 1 1 [.int .i64 x] rfl rfl (cell_one_new _ _ _) (by simp [Value.oneCell']) (by unfold Go.maxLen; omega) (by omega) (by simp; omega) ?_; intro v' w1 hown' hgrow _; obtain ⟨g', cap', rfl⟩ := ownsRow_succ hown'; obtain ⟨hv1, hv2, hr2, hk2, hb2⟩ := hv.appended (by decide) hrow (by omega) (Nat.le_refl _) hown' hgrow; have hc1 := hv1.cell; have hf1 := hv1.frozen)
    have hk3 : KeepsWalks W (w1.setCell ⟨Bl, 0, none⟩ (.slice (some ⟨g', 0, none⟩) (pre.length + 1) cap')) := ⟨hk2.size, fun k o hk ho => hk2.same k o hk (by cases o <;> first | rfl | (simp [Obj.isWalk] at ho))⟩
    exact ⟨hk2.from _, hk3, ⟨_, hv2, by simpa using hr2, trivial⟩, hB.trans (hb2.mono (by omega))⟩
  case done =>
    rintro D ys W hD hperm ⟨⟨v, hv, hrow, -⟩, hB⟩ hK
    have hc := hv.cell
    have hown : OwnI W Bl v ys := hrow
    obtain ⟨va, vc, rfl, hI, hcp1, hcp2, -, hg⟩ := hown.ints
    have hne0 : 0 < ys.length := by
      rcases Nat.eq_zero_or_pos ys.length with e | hp
      · exfalso
        apply Hne.out
        have hnil := List.length_eq_zero_iff.1 e
        subst hnil
        have hm0 : m.map (·.1) = [] := hperm.symm.eq_nil
        rw [List.eq_nil_iff_forall_not_mem]
        intro x hx
        have := (Hmem.out x).2 hx
        rw [hm0] at this
        cases this
      · exact hp
    obtain ⟨g, off, e, hgB, hgb, -⟩ := hI.2 hne0
    obtain ⟨g2, hgx⟩ := hg _ e
    have ho : off = 0 := by cases hgx; rfl
    subst ho
    subst e
    clear hgx
    have hsort : (ys.mergeSort fun x y => decide (x ≤ y)) = unitsOf ls.flatten := sorted_units (hperm.nodup_iff.2 Happ.out) (fun x => by rw [hperm.mem_iff, Hmem.out])
    have hs := sort_any W Bl g vc ys hown (by have := hperm.length_eq; simp at this; omega) hne0
    have hgD : g ≠ D := by
      intro e
      subst e
      rcases hown.2 with ⟨e, -⟩ | ⟨g', cap, cur, e, -, hg', -⟩
      · cases e
      · cases e; rw [hg'] at hK; cases hK
    have hBg : Bl ≤ g := hgB
    have hBlg : Bl ≠ g := by
      intro e
      subst e
      exact hv.not_row (by decide) hrow rfl
    have hgW : g < W.heap.size := hgb
    have HS := Lib.hid hsort
    clear hsort
    gi_wp2_with fail
    refine ⟨trivial, ?_⟩
    refine (callsIn_wide.2 hs).mono ?_
    clear hs
    rintro e3 W3 ⟨rfl, hM, hcell⟩
    have Hcell := Lib.hid hcell
    have hK3 : W3.heap[D]? = some (.deferred (some [])) := (hM.block D (Array.getElem?_eq_some_iff.1 hK).1 (fun e => hgD e.symm)).trans hK
    have hc3 := hM.at hc hBlg
    clear hcell
    gi_wp2
    refine ⟨by simp, .inl ⟨_, _, rfl, run_takeDeferred hK3, ?_⟩⟩
    have hlu : ys.length = (unitsOf ls.flatten).length := by rw [← HS.out, List.length_mergeSort]
    refine ⟨_, results_tmp rfl _ _ _, some ⟨g, 0, none⟩, vc, by rw [← hlu]; rfl, ⟨?_, ?_⟩, ?_, by rw [← hlu]; exact hcp1, hcp2⟩
    · rw [← hlu]; exact hI.1
    · intro _
      refine ⟨g, 0, rfl, ?_, ?_, fun i hi => ?_⟩
      · show w.heap.size ≤ g; omega
      · have := hM.size; simp; omega
      · rw [← hlu] at hi
        have := Hcell.out i hi
        rw [HS.out] at this
        rw [← this]
        exact World.cell?_of_block (World.putObj_heap_other (fun e => hgD e))
    · exact (hB.trans (hM.below_at hB.size (fun k hk e => by omega))).trans (belowK_b (w := w) (Nat.le_refl _) W3 D _ _ (by omega) hK3 rfl rfl)
  case stop =>
    rintro D c pre W _ _ h _
    exact h.elim
end Go.Proofs.YtghdhhbpbmhooaaGreat
