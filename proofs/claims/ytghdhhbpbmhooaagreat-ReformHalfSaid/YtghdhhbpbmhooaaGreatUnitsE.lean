/- the units of a projection that has none -/
import Derived.Test.YtghdhhbpbmhooaaGreatSortNil
import Derived.RangeFuncNested
import Derived.RangeFuncBound
import Derived.RangeFuncCalls
import Derived.RangeFuncLeaves
import Derived.RangeFuncStops
import Derived.RangeFuncBox
import Derived.Shelf.Abstract
import Derived.Shelf.RegionOpen
import Derived.OwnWalkIn
import Derived.TacticsInMore
import Derived.LoopNIn
import Derived.LoopIn
import Derived.RegionIn
import Derived.Maps.AppendAt
namespace Go.Proofs.YtghdhhbpbmhooaaGreat
open Go.RowKit Go.Shelf Esch
attribute [local go_sem] Oper.semAt_some

theorem sort0_any (w : World) (B : Nat) (va : Option Addr) (vc : Nat) (hO : OwnI w B (.slice va 0 vc) []) :
    Calls Tryz.prog 78 #[.slice va 0 vc] w fun e w' => e = .returned (.tuple #[]) ∧ Mod (fun k => (Value.slice va 0 vc).ownBlock = some k) w w' := by
  rcases hO.2 with ⟨e, -⟩ | ⟨g, cap, cur, e, -, hg, -⟩
  · cases e
    refine (sortNil w).mono ?_
    rintro e w' ⟨rfl, rfl⟩
    exact ⟨rfl, Mod.refl _ _⟩
  · cases e
    have hH : Sort.Holds (Value.int .i64) w g 0 ([] : List Int).toArray := by
      intro j hj
      simp at hj
    refine (Any.slices_Sort_int Tryz.lays189 g 0 vc [] w hH (block_lt hg) (by decide)).mono ?_
    rintro e w' ⟨he, n, os, rfl⟩
    refine ⟨he, ⟨rfl, rfl, rfl, by simp, fun k hk hne => ?_⟩⟩
    rw [Sort.heap_grow_old _ _ (by simpa using hk)]
    show ((w.heap.modify g _)[k]?) = _
    rw [Array.getElem?_modify, if_neg (fun e => hne (by rw [← e]; rfl))]
set_option maxRecDepth 100000 in
set_option maxHeartbeats 2000000 in
theorem unitsE_any (S : Nat → Prop) (w : World) (ep : Int) (a : Option Addr) (c : Nat) (ls : List (List Int)) (hs : Small ls) (hne : ls.flatten = []) (h : ListsAt S w a ls) :
    Calls Tryz.prog 48 #[.agg #[.int .i64 ep, .slice a ls.length c]] w (SlicePost w (unitsOf ls.flatten)) := by
  refine (callsIn_wide (n := 10)).1 ?_
  have hmet := met_any S ((w.alloc (.cells #[.int .i64 ep, .slice a ls.length c] 24)).alloc (.cells #[.slice none 0 0] 85)) ep a c ls hs (h.mod ((Mod.refl none' _).alloc _ |>.alloc _) (fun _ _ _ => id))
  have Hs := Lib.hid hs
  have Hne := Lib.hid hne
  clear hs hne h
  refine callsIn_of_wp_marks Tryz.func48 rfl trivial ?_ rfl
  simp only [Tryz.ntmps48, List.size_toArray, List.length_cons, List.length_nil, Nat.reduceAdd, Nat.reduceSub, Array.replicate_succ, Array.replicate_zero, List.push_toArray, List.append_toArray, List.nil_append, List.cons_append]
  gi_wp2_with fail
  refine ⟨trivial, ?_⟩
  refine (callsIn_wide.2 hmet).mono ?_
  clear hmet
  rintro e1 w1 ⟨mb, rfl, ⟨m, es, clock, hm1, hg⟩, hmb, hB⟩
  have Hg := Lib.hid hg
  have Happ := Lib.hid hm1.apart
  clear hg
  gi_wp2_with fail
  refine ⟨trivial, ?_⟩
  refine (keys_in Fence.wide 9 trivial rfl (some mb) _).mono ?_
  rintro e2 w2 ⟨rfl, rfl⟩
  have hmem : ∀ x, x ∈ m.map (·.1) ↔ x ∈ ls.flatten := by
    intro x
    rw [← cntO_some ls.flatten, ← Hg.out x]
    constructor
    · intro h
      obtain ⟨p, hp, rfl⟩ := List.mem_map.1 h
      rw [(mem_iff_get Happ.out p.1 p.2).1 hp]; rfl
    · intro h
      obtain ⟨n, hn⟩ := Option.isSome_iff_exists.1 h
      exact List.mem_map.2 ⟨(x, n), (mem_iff_get Happ.out x n).2 hn, rfl⟩
  have hlen : m.length ≤ 2500 := by
    have h1 := (length_unitsOf_iff (m.map (·.1))).2 Happ.out
    rw [unitsOf_congr hmem, List.length_map] at h1
    have h2 := length_unitsOf ls.flatten
    have h3 := small_flat Hs.out ls.length
    rw [List.take_length] at h3
    omega
  have Hmem := Lib.hid hmem
  clear hmem
  have hsz := hB.size
  simp only [World.size_alloc] at hsz hmb hB
  have bO0 := Boxed.new (w.alloc (.cells #[.int .i64 ep, .slice a ls.length c] 24)) 85 (.slice none 0 0)
  rw [World.size_alloc] at bO0
  have bO : Boxed w1 (w.heap.size + 1) 85 (.slice none 0 0) := (hB.block (w.heap.size + 1) (by omega)).trans bO0
  have hB0 : Below w.heap.size w w1 := (((Below.refl _ w).alloc (Nat.le_refl _) _).alloc (by simp) _).trans (hB.mono (by omega))
  have hB1 := hB0.alloc (by omega) (.cells #[.map (some mb)] 141)
  have bM := Boxed.new w1 141 (.map (some mb))
  have hm2 := hm1.of_block (w' := w1.alloc (.cells #[.map (some mb)] 141)) (alloc_old _ _ _ (block_lt hm1.block))
  obtain ⟨i0, hi, hz0, hz1, hz2⟩ := info_parts Tryz.infoInt
  clear bO0 hB hB0 hm1
  gi_wp2_with fail
  have bO1 := bO.alloc (.cells #[.map (some mb)] 141)
  have hszW : (w1.alloc (.cells #[.map (some mb)] 141)).heap.size = w1.heap.size + 1 := by simp
  obtain ⟨W0, hW0⟩ : ∃ W0, w1.alloc (.cells #[.map (some mb)] 141) = W0 := ⟨_, rfl⟩
  obtain ⟨Bm, hBm⟩ : ∃ Bm, Bm = w1.heap.size := ⟨_, rfl⟩
  obtain ⟨Bl, hBl⟩ : ∃ Bl, Bl = w.heap.size + 1 := ⟨_, rfl⟩
  rw [hW0] at bM hm2 bO1 hB1 hszW ⊢
  rw [← hBm] at bM hszW ⊢
  rw [← hBl] at bO bO1 ⊢
  have hz1 : Bl < W0.heap.size := by omega
  have hz2 : w.heap.size < Bl := by omega
  have hz3 : Bl + 1 ≤ Bm := by omega
  have hBlB := Lib.hid hBl
  clear hW0 hBm bO hBl
  refine wpIn_rangeFunc_ownH (α := Int) rfl (by omega) (gf := 99) (lb := #[.pointer (some ⟨Bm, 0, none⟩)]) rfl trivial (enters_of Tryz.func99 (by kernel_rfl) rfl)
    (keys_stops Fence.wide 9 trivial rfl (by omega) Bm mb m es clock W0 (by omega) bM.cell hm2) walksK_t walksK_b (Below.refl _ _) (fun _ => rfl)
    (fun pre W => (∃ v, Boxed W Bl 85 v ∧ W.ownsRow Bl 3 1 v pre.length (pre.map (Value.int .i64)) ∧ True) ∧ Below w.heap.size w W)
    (fun _ _ _ => False)
    (OwnFrom.and (Own.from (holdsRow_own Bl Bl 85 3 1 (fun pre : List Int => pre.length) (fun pre => pre.map (Value.int .i64)) (fun _ _ => True)) _) (ownFrom_below (Nat.le_refl _) (by omega)))
    (fun _ _ _ _ _ hs _ _ => hs)
    ⟨⟨_, bO1, World.ownsRow_nil _ _ _ _, trivial⟩, hB1⟩
    (fun x a' W => ∃ Bx, Bl < Bx ∧ Boxed W Bx 144 (.int .i64 x) ∧ a' = { tmps := #[.agg #[.int .i64 ep, .slice a ls.length c], .pointer (some ⟨w.heap.size, 0, none⟩), .slice none 0 0, .pointer (some ⟨Bl, 0, none⟩), .pointer (some ⟨Bx, 0, none⟩), .agg #[.int .i64 ep, .slice a ls.length c], .map (some mb), .func (.func 99) #[] #[.pointer (some ⟨Bm, 0, none⟩)], .agg #[.int .i64 x], undef, undef, undef, undef, undef, undef, undef, undef], defers := [] })
    (fun x a' _ X Y row hs hg hr => by obtain ⟨Bx, h1, h2, h3⟩ := hs; exact ⟨Bx, h1, boxed_own Bx 144 (fun (_ : Unit) => Value.int .i64 x) () X Y row h2 hg (fun r e => (hr r e).2), h3⟩)
    ?assign ?body ?done ?stop
  case assign =>
    rintro l pre x W K ⟨⟨v, hv, hrow, -⟩, hB⟩ hK
    gi_wp2
    exact hK _ _ ((KeepsOthers.alloc _ _).from _) (KeepsWalks.alloc _ _) ⟨⟨v, hv.alloc _, hrow.alloc _, trivial⟩, hB.alloc hB.size _⟩ ⟨W.heap.size, hv.lt, Boxed.new W 144 _, rfl⟩
  case body =>
    rintro l pre x a' W hl ⟨r, hr⟩ ⟨⟨v, hv, hrow, -⟩, hB⟩ ⟨Bx, hBx, bX, rfl⟩ hlt
    have hc := hv.cell
    have hcx := bX.cell
    have hzW := hB.size
    have hBlW := hv.lt
    gi_wp2_with (gi_at_builtin; refine wpListIn_append_own _ rfl _ _ 85 rfl Bl 3 i0 (.int .i64 0) 1 8 Tryz.underlying85 hi hz0 ‹_› ‹_› rfl (by decide) _ _ _ rfl (hrow.alloc _) ⟨W.heap.size, 0, none⟩ 1 1 [.int .i64 x] rfl rfl (cell_one_new _ _ _) (by simp [Value.oneCell']) (by unfold Go.maxLen; omega) (by omega) (by simp; omega) ?_; intro v' w1 hown' hgrow _; obtain ⟨g', cap', rfl⟩ := ownsRow_succ hown'; obtain ⟨hv1, hv2, hr2, hk2, hb2⟩ := hv.appended (by decide) hrow (by omega) (Nat.le_refl _) hown' hgrow; have hc1 := hv1.cell; have hf1 := hv1.frozen)
    have hk3 : KeepsWalks W (w1.setCell ⟨Bl, 0, none⟩ (.slice (some ⟨g', 0, none⟩) (pre.length + 1) cap')) := ⟨hk2.size, fun k o hk ho => hk2.same k o hk (by cases o <;> first | rfl | (simp [Obj.isWalk] at ho))⟩
    exact ⟨hk2.from _, hk3, ⟨_, hv2, by simpa using hr2, trivial⟩, hB.trans (hb2.mono (by omega))⟩
  case done =>
    rintro D ys W hD hperm ⟨⟨v, hv, hrow, -⟩, hB⟩ hK
    have hc := hv.cell
    have hown : OwnI W Bl v ys := hrow
    obtain ⟨va, vc, rfl, hI, hcp1, hcp2, -, hg⟩ := hown.ints
    have hys : ys = [] := by
      rw [List.eq_nil_iff_forall_not_mem]
      intro x hx
      have := (Hmem.out x).1 (hperm.mem_iff.1 hx)
      rw [Hne.out] at this
      cases this
    subst hys
    have hs := sort0_any W Bl va vc hown
    have hgD : ¬ ((Value.slice va 0 vc).ownBlock = some D) := by
      rcases hown.2 with ⟨e, -⟩ | ⟨g', cap, cur, e, -, hg', -⟩
      · cases e; intro h; cases h
      · cases e; intro h; cases h; rw [hg'] at hK; cases hK
    have hBlg : ¬ ((Value.slice va 0 vc).ownBlock = some Bl) := by
      rcases hown.2 with ⟨e, -⟩ | ⟨g', cap, cur, e, -, hg', -⟩
      · cases e; intro h; cases h
      · cases e; intro h; cases h; exact hv.not_row (by decide) hrow rfl
    have hBg : ∀ k, (Value.slice va 0 vc).ownBlock = some k → Bl ≤ k := by
      rcases hown.2 with ⟨e, -⟩ | ⟨g', cap, cur, e, hb, hg', -⟩
      · cases e; intro k h; cases h
      · cases e; intro k h; cases h; exact hb
    simp only [List.length_nil] at hc hrow
    have HS : Hid (unitsOf ls.flatten = []) := Lib.hid (by rw [Hne.out]; rfl)
    simp only
    gi_wp2_with fail
    refine ⟨trivial, ?_⟩
    refine (callsIn_wide.2 hs).mono ?_
    clear hs
    rintro e3 W3 ⟨rfl, hM⟩
    have hK3 : W3.heap[D]? = some (.deferred (some [])) := (hM.block D (Array.getElem?_eq_some_iff.1 hK).1 hgD).trans hK
    have hc3 := hM.at hc hBlg
    gi_wp2
    refine ⟨by simp, .inl ⟨_, _, rfl, run_takeDeferred hK3, ?_⟩⟩
    rw [HS.out]
    refine ⟨_, results_tmp rfl _ _ _, va, vc, rfl, IntsAt.nil _ _ _, ?_, hcp1, hcp2⟩
    exact (hB.trans (hM.below_at hB.size (fun k hk e => by have := hBg k e; omega))).trans (belowK_b (w := w) (Nat.le_refl _) W3 D _ _ (by omega) hK3 rfl rfl)
  case stop =>
    rintro D c pre W _ _ h _
    exact h.elim
/-- the units of any projection -/
theorem units_all (S : Nat → Prop) (w : World) (ep : Int) (a : Option Addr) (c : Nat) (ls : List (List Int)) (hs : Small ls) (h : ListsAt S w a ls) :
    Calls Tryz.prog 48 #[.agg #[.int .i64 ep, .slice a ls.length c]] w (SlicePost w (unitsOf ls.flatten)) := by
  by_cases hne : ls.flatten = []
  · exact unitsE_any S w ep a c ls hs hne h
  · exact units_any S w ep a c ls hs hne h
end Go.Proofs.YtghdhhbpbmhooaaGreat
