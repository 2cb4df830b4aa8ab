/- projections, copied -/
import Derived.Test.YtghdhhbpbmhooaaGreatPkKeep
import Derived.Deep.DrawnRows
import Derived.Deep.RegionLaw
namespace Go.Proofs.YtghdhhbpbmhooaaGreat
open Go.RowKit Esch
attribute [local go_sem ↓] Go.wp_at_zero Go.wp_at_succ

/-- xs: the heads of lists, each in blocks of S -/
def HeadsOf (S : Nat → Prop) (w : World) (xs : List Value) (ls : List (List Int)) : Prop := xs.length = ls.length ∧ ∀ i, i < ls.length → ∃ ia ic, xs[i]? = some (.slice ia (ls.getD i []).length ic) ∧ IntsAt S w ia (ls.getD i []) ∧ CapOk (ls.getD i []) ic
theorem HeadsOf.nil (S : Nat → Prop) (w : World) : HeadsOf S w [] [] := ⟨rfl, fun i h => absurd h (by simp)⟩
theorem HeadsOf.snoc {S S' : Nat → Prop} {w w' : World} {xs : List Value} {ls : List (List Int)} (h : HeadsOf S w xs ls) (hk : ∀ a l, IntsAt S w a l → IntsAt S' w' a l) {ia : Option Addr} {l : List Int} {ic : Nat} (hi : IntsAt S' w' ia l) (hcap : CapOk l ic) :
    HeadsOf S' w' (xs ++ [.slice ia l.length ic]) (ls ++ [l]) := by
  obtain ⟨h1, h2⟩ := h
  refine ⟨by simp [h1], fun i hil => ?_⟩
  simp only [List.length_append, List.length_cons, List.length_nil] at hil
  by_cases e : i < ls.length
  · obtain ⟨ja, jc, h3, h4, h5⟩ := h2 i e
    have : (ls ++ [l]).getD i [] = ls.getD i [] := by simp [List.getD_eq_getElem?_getD, List.getElem?_append_left e]
    rw [this, List.getElem?_append_left (by omega)]
    exact ⟨ja, jc, h3, hk _ _ h4, h5⟩
  · have e' : i = ls.length := by omega
    subst e'
    have : (ls ++ [l]).getD ls.length [] = l := by simp [List.getD_eq_getElem?_getD]
    rw [this, ← h1]
    exact ⟨ia, ic, by simp, hi, hcap⟩

theorem grownBy_set (W : World) (b o : Nat) (v : Value) : W.grownBy (W.setCell ⟨b, o, none⟩ v) (some b) := ⟨rfl, rfl, rfl, by simp, fun i _ hne => Below.heap_setCell _ _ _ _ (fun e => hne (by rw [e]))⟩
theorem below_drew {B : Nat} {w w' : World} (h : Below B w.drew w') : Below B w w' := ⟨h.os, h.tape, h.output, h.size, h.block⟩
theorem own_below {w w' : World} {base : Nat} {e : TypeId} {size : Nat} {v : Value} {n : Nat} {xs : List Value} (h : w.ownsRow base e size v n xs) (hb : Below w.heap.size w w') : w'.ownsRow base e size v n xs := by
  refine ⟨h.1, h.2.imp id ?_⟩
  rintro ⟨g, cap, cur, h1, h2, h3, h4⟩
  exact ⟨g, cap, cur, h1, h2, (hb.block g (block_lt h3)).trans h3, h4⟩
/-- the copy that is made, so far -/
structure CopyAt (w0 : World) (qb B : Nat) (ep : Int) (va : Option Addr) (vc : Nat) (xs : List Value) (ls : List (List Int)) (w : World) : Prop where
  c0 : w.cell? ⟨qb, 0, none⟩ = some (.int .i64 ep)
  c1 : w.cell? ⟨qb, 1, none⟩ = some (.slice va ls.length vc)
  f1 : w.frozen? ⟨qb, 1, none⟩ = false
  row : w.ownsRow B 85 1 (.slice va ls.length vc) ls.length xs
  heads : HeadsOf (fun j => B ≤ j ∧ (Value.slice va ls.length vc).ownBlock ≠ some j) w xs ls
  below : Below w0.heap.size w0 w
def CopyRel (w0 : World) (qb B : Nat) (ep : Int) (rb : Nat) (ls : List (List Int)) (g : Nat) (s12 : Value) (wr : World) : Prop :=
  ∃ (k : Nat) (va : Option Addr) (vc : Nat) (xs : List Value), g = ls.length - k ∧ k ≤ ls.length ∧ s12 = .int .i64 k ∧ CopyAt w0 qb B ep va vc xs (ls.take k) wr ∧ wr.cell? ⟨rb, 0, none⟩ = some (.int .i64 0) ∧ wr.cell? ⟨rb, 1, none⟩ = some (.slice none 0 0) ∧ wr.frozen? ⟨rb, 0, none⟩ = false ∧ wr.frozen? ⟨rb, 1, none⟩ = false
def CopyPost (w : World) (ep : Int) (ls : List (List Int)) (e : Ending) (w' : World) : Prop := ∃ a c, e = .returned (.agg #[.int .i64 ep, .slice a ls.length c]) ∧ ListsAt (From w.heap.size) w' a ls ∧ Below w.heap.size w w'

/-- one more chain: the clone has been made (w2), its head laid into a block (w3), and been appended (w4) -/
theorem CopyAt.own_ne {w0 w : World} {qb B j : Nat} {ep : Int} {va : Option Addr} {vc : Nat} {xs : List Value} {ls : List (List Int)} (h : CopyAt w0 qb B ep va vc xs ls w) (hq : j < B) : (Value.slice va ls.length vc).ownBlock ≠ some j := by
  rcases h.row.2 with ⟨e, -⟩ | ⟨g, cap, cur, e, hb, -⟩
  · rw [e]; simp [Value.ownBlock]
  · rw [e]; simp [Value.ownBlock]; omega

section
variable {w0 wr w2 w4 : World} {qb gg cap k : Nat} {ep : Int} {va : Option Addr} {vc : Nat} {xs : List Value} {pre : List (List Int)} {l : List Int} {ja : Option Addr} {jc : Nat} {o : Obj}
/-- a block that was there, but the copy's own and the row's, is as it was -/
theorem copy_keeps (hB2 : Below wr.heap.size wr w2) (hgrow : (w2.alloc o).grownBy w4 (Value.slice va k vc).ownBlock) (u : Value) {j : Nat} (hj : j < wr.heap.size) (hq : j ≠ qb) (ho : (Value.slice va k vc).ownBlock ≠ some j) :
    (w4.setCell ⟨qb, 1, none⟩ u).heap[j]? = wr.heap[j]? := by
  have hz := hB2.size
  rw [Below.heap_setCell _ _ _ _ hq, hgrow.block j (by simp only [World.size_alloc]; omega) (fun e => ho e.symm), Below.heap_alloc _ _ _ (by omega), hB2.block j hj]
theorem CopyAt.step (hC : CopyAt w0 qb (qb + 1) ep va vc xs pre wr) (hB2 : Below wr.heap.size wr w2) (hi2 : IntsAt (From wr.heap.size) w2 ja l)
    (hown1 : w4.ownsRow (qb + 1) 85 1 (.slice (some ⟨gg, 0, none⟩) (k + 1) cap) (k + 1) (xs ++ [.slice ja l.length jc])) (hgrow : (w2.alloc o).grownBy w4 (Value.slice va k vc).ownBlock)
    (hat : (Value.slice va k vc).ownBlock = some gg ∨ gg = w2.heap.size + 1) (hk : pre.length = k) (hw0 : w0.heap.size ≤ qb) (hf0 : (w4.frozen? ⟨qb, 1, none⟩) = false) (hc4 : w4.cell? ⟨qb, 1, none⟩ = some (.slice va k vc)) (hcp : CapOk l jc) :
    CopyAt w0 qb (qb + 1) ep (some ⟨gg, 0, none⟩) cap (xs ++ [.slice ja l.length jc]) (pre ++ [l]) (w4.setCell ⟨qb, 1, none⟩ (.slice (some ⟨gg, 0, none⟩) (k + 1) cap)) := by
  subst hk
  have hz := hB2.size
  have hql := cell_lt hC.c0
  have hon := hC.own_ne (Nat.lt_succ_self qb)
  have hgz := hgrow.size
  simp only [World.size_alloc] at hgz
  have hgq : gg ≠ qb := by
    rcases hat with h | h
    · intro e; rw [h, e] at hon; exact hon rfl
    · omega
  have hlen : (pre ++ [l]).length = pre.length + 1 := by simp
  have hB4 : Below wr.heap.size wr (w2.alloc o) := hB2.alloc hz o
  have c0 : w4.cell? ⟨qb, 0, none⟩ = some (.int .i64 ep) := (hgrow.cell_far ⟨qb, 0, none⟩ (by simp only [World.size_alloc]; omega) (fun e => hon e.symm)).trans ((cell_alloc_lt _ _ _ _ (by omega)).trans (below_at hB2 hC.c0 hql))
  refine ⟨?_, ?_, ?_, ?_, ?_, ?_⟩
  · go_simp
  · rw [hlen]; go_simp
  · go_simp
  · rw [hlen]
    refine hown1.kept (grownBy_set _ _ _ _) (Or.inr ?_)
    intro e; exact hgq (Option.some.inj e)
  · refine HeadsOf.snoc (S := fun j => qb + 1 ≤ j ∧ (Value.slice va pre.length vc).ownBlock ≠ some j) hC.heads ?_ ?_ hcp
    · rintro a' l' ⟨h1, h2⟩
      refine ⟨h1, fun h0 => ?_⟩
      obtain ⟨b, off, rfl, ⟨hb1, hb2⟩, hb3, hb4⟩ := h2 h0
      have hbl := copy_keeps (qb := qb) hB2 hgrow (.slice (some ⟨gg, 0, none⟩) (pre.length + 1) cap) hb3 (by omega) hb2
      refine ⟨b, off, rfl, ⟨hb1, ?_⟩, by simp only [World.size_setCell]; omega, fun i hi => (World.cell?_of_block hbl).trans (hb4 i hi)⟩
      intro e
      have e : gg = b := Option.some.inj e
      rcases hat with h | h
      · exact hb2 (by rw [h, e])
      · omega
    · refine ⟨hi2.1, fun h0 => ?_⟩
      obtain ⟨b, off, rfl, hb1, hb3, hb4⟩ := hi2.2 h0
      have hb1' : wr.heap.size ≤ b := hb1
      have hne : (Value.slice va pre.length vc).ownBlock ≠ some b := by
        rcases hC.row.2 with ⟨e, -⟩ | ⟨g, cap', cur, e, hbg, hg, -⟩
        · rw [e]; simp [Value.ownBlock]
        · rw [e]; intro e; have e : g = b := Option.some.inj e; have := block_lt hg; omega
      refine ⟨b, off, rfl, ⟨by omega, ?_⟩, by simp only [World.size_setCell]; omega, fun i hi => ?_⟩
      · intro e
        have e : gg = b := Option.some.inj e
        rcases hat with h | h
        · exact hne (by rw [h, e])
        · omega
      · refine (World.cell?_of_block ?_).trans (hb4 i hi)
        rw [Below.heap_setCell _ _ _ _ (by show b ≠ qb; omega), hgrow.block b (by simp only [World.size_alloc]; omega) (fun e => hne e.symm), Below.heap_alloc _ _ _ hb3]
  · have h1 := hC.below.size
    refine Below.setCell ?_ (by show w0.heap.size ≤ qb; exact hw0) _
    refine ((hC.below.trans (hB2.mono h1)).alloc (by omega) o).grown hgrow (by simp only [World.size_alloc]; omega) ?_
    intro j hj
    rcases hC.row.2 with ⟨e, -⟩ | ⟨g, cap', cur, e, hbg, hg, -⟩
    · rw [e] at hj; simp [Value.ownBlock] at hj
    · rw [e] at hj; have hj : g = j := Option.some.inj hj; omega
end

set_option maxRecDepth 100000 in
set_option maxHeartbeats 2000000 in
theorem copy_any (S : Nat → Prop) (w : World) (ep : Int) (a : Option Addr) (c : Nat) (ls : List (List Int)) (hs : Small ls) (h : ListsAt S w a ls) :
    Calls Tryz.prog 44 #[.agg #[.int .i64 ep, .slice a ls.length c]] w (CopyPost w ep ls) := by
  have Hs := Lib.hid hs
  have hn := hs.1
  clear hs
  obtain ⟨hm, h⟩ := h
  have H := Lib.hid h
  clear h
  obtain ⟨i0, hi, hz0, hz1, hz2⟩ := info_parts Tryz.infoInts
  go_enter Tryz.func44, Tryz.ntmps44
  go_wp2_with fail
  have hB0 : Below w.heap.size w ((((w.alloc (.cells #[.int .i64 ep, .slice a ls.length c] 24)).alloc (.cells #[.int .i64 0, .slice none 0 0] 24)).alloc (.cells #[.int .i64 ep, .slice none 0 0] 24))) := by exact belC (Below.refl _ _)
  obtain ⟨W0, hW0⟩ : ∃ W0, W0 = (((w.alloc (.cells #[.int .i64 ep, .slice a ls.length c] 24)).alloc (.cells #[.int .i64 0, .slice none 0 0] 24)).alloc (.cells #[.int .i64 ep, .slice none 0 0] 24)) := ⟨_, rfl⟩
  have r0 : W0.cell? ⟨w.heap.size + 1, 0, none⟩ = some (.int .i64 0) := by rw [hW0]; go_simp
  have r1 : W0.cell? ⟨w.heap.size + 1, 1, none⟩ = some (.slice none 0 0) := by rw [hW0]; go_simp
  have r2 : W0.frozen? ⟨w.heap.size + 1, 0, none⟩ = false := by rw [hW0]; go_simp
  have r3 : W0.frozen? ⟨w.heap.size + 1, 1, none⟩ = false := by rw [hW0]; go_simp
  have q0 : W0.cell? ⟨w.heap.size + 1 + 1, 0, none⟩ = some (.int .i64 ep) := by rw [hW0]; go_simp
  have q1 : W0.cell? ⟨w.heap.size + 1 + 1, 1, none⟩ = some (.slice none 0 0) := by rw [hW0]; go_simp
  have q3 : W0.frozen? ⟨w.heap.size + 1 + 1, 1, none⟩ = false := by rw [hW0]; go_simp
  rw [← hW0] at hB0 ⊢
  have HW0 := Lib.hid hW0
  clear hW0
  obtain ⟨rb, hrb⟩ : ∃ rb, rb = w.heap.size + 1 := ⟨_, rfl⟩
  obtain ⟨qb, hqb⟩ : ∃ qb, qb = w.heap.size + 1 + 1 := ⟨_, rfl⟩
  rw [← hqb] at q0 q1 q3 ⊢
  rw [← hrb] at r0 r1 r2 r3 ⊢
  have hrq : w.heap.size < rb ∧ rb < qb := by omega
  clear hqb hrb
  go_loopg [12] ls.length (fun g s12 wr => CopyRel w qb (qb + 1) ep rb ls g s12 wr)
  case atStart => exact ⟨0, none, 0, [], rfl, Nat.zero_le _, rfl, ⟨q0, q1, q3, World.ownsRow_nil _ _ _ _, HeadsOf.nil _ _, hB0⟩, r0, r1, r2, r3⟩
  case round =>
    clear r0 r1 r2 r3 q0 q1 q3 hB0
    obtain ⟨k, va, vc, xs, rfl, hk, rfl, hC, hr0, hr1, hf0, hf1⟩ := hrel
    by_cases hlt : k < ls.length
    · obtain ⟨b, off, rfl, -, hb, hc⟩ := H.out (by omega)
      obtain ⟨ia, ic, hc1, hi1, -⟩ := hc k hlt
      clear hc
      have hl50 := Hs.out.2 k hlt
      have HT := Lib.hid (take_getD' hlt)
      replace hc1 := below_at hC.below hc1 hb
      have hi2 := hi1.mod (Mod.of_below (F := none') hC.below) (fun _ _ _ => id)
      clear hi1
      have hk1 : (0 : Int) ≤ k := by omega
      have hk2 : (k : Int) < ls.length := by omega
      generalize ls.getD k [] = l at *
      have hcl1 := clone_any S wr.drew ia ic l (by omega) hi2
      have htl : (ls.take k).length = k := by simp; omega
      have hq1 := hC.c1
      have hqf := hC.f1
      have hrow := hC.row
      have hown := hC.own_ne (Nat.lt_succ_self qb)
      rw [htl] at hq1 hrow hown
      have hql := cell_lt hq1
      have HC := Lib.hid hC
      clear hC hi2
      go_wp2_with fail
      go_region_law
        (first
          | (refine step_append_lies _ (by rfl) _ _ _ (by rfl) (qb + 1) 85 i0 _ 1 24 Tryz.underlying22 hi hz0 hz1 hz2 rfl (by omega) (.slice va k vc) k xs (by rfl) ((own_below hrow.drew hB2).alloc _) ⟨w2.heap.size, 0, none⟩ 1 1 [.slice ja l.length jc] (by rfl) (by rfl)
              (World.news_of_block (cs := #[.slice ja l.length jc]) (t := 85) (fr := (0, 0)) (heap_alloc_new _ _)) (by simp [Value.oneCell']) (by omega) (by unfold Go.maxLen; omega) (by omega) (by simp only [World.size_alloc]; omega) (w2.heap.size + 1) (by simp) ?_; intro gg cap w4 hown1 hgrow hat hlt4; have hq4 := (hgrow.cell_far ⟨qb, 1, none⟩ (by simp only [World.size_alloc]; omega) (fun e => hown e.symm)).trans ((cell_alloc_lt _ _ _ _ (by omega)).trans hq2); have hq5 := (hgrow.frozen_far ⟨qb, 1, none⟩ (by simp only [World.size_alloc]; omega) (fun e => hown e.symm)).trans ((frozen_alloc_lt _ _ _ _ (by omega)).trans hq3))
          | (go_simp; go_at_call 75; (with_reducible refine hcl1.mono ?_); rintro e w2 ⟨ja, jc, rfl, hi2, hB2, hcp⟩; have hzw : wr.heap.size ≤ w2.heap.size := hB2.size; have hql2 : qb < w2.heap.size := (by omega); have hq2 := below_at hB2 hq1 hql; have hq3 := (hB2.frozen (p := ⟨qb, 1, none⟩) hql).trans hqf))
      all_goals go_wp2_with fail
      all_goals
        have hHC := HC.out
        have hB2' : Below wr.heap.size wr w2 := below_drew hB2
        have HR := Lib.hid (hHC.step (jc := jc) hB2' hi2 hown1 hgrow hat htl (by omega) hq5 hq4 hcp)
        have hr : rb < wr.heap.size := cell_lt hr0
        have hon := hHC.own_ne (j := rb) (by omega)
        rw [htl] at hon
        have HK := Lib.hid (copy_keeps (qb := qb) hB2' hgrow (.slice (some ⟨gg, 0, none⟩) (k + 1) cap) hr (by omega) hon)
        clear hHC hB2'
        go_roundg (ls.length - (k + 1))
      all_goals first
        | (show _ < _; omega)
        | exact ⟨k + 1, some ⟨gg, 0, none⟩, cap, _, rfl, by omega, by go_num, by rw [HT.out]; exact HR.out, (World.cell?_of_block HK.out).trans hr0, (World.cell?_of_block HK.out).trans hr1, (World.frozen?_of_block HK.out).trans hf0, (World.frozen?_of_block HK.out).trans hf1⟩
    · have hk3 : k = ls.length := by omega
      subst hk3
      obtain ⟨hq0, hq1, -, hrow, hhd, hB⟩ := hC
      rw [List.take_length] at hq1 hrow hhd
      have Hhd := Lib.hid hhd
      have Hrow := Lib.hid hrow
      clear hhd hrow
      go_wp2_with fail
      obtain ⟨a', c', he, hls⟩ := own_lists Hrow.out rfl Hhd.out.2
      simp only [Value.slice.injEq] at he
      obtain ⟨rfl, -, rfl⟩ := he
      refine bodyPost_ret (v := .agg #[.int .i64 ep, .slice va ls.length vc]) (by simp only [results, Tryz.results44]; go_simp) rfl ?_
      refine ⟨va, vc, rfl, ?_, ?_⟩
      · refine (hls.mod (F := (· = rb)) (by exact modC (Mod.refl _ _)) ?_).sub ?_
        · rintro j (hj | hj) - rfl <;> omega
        · rintro j - (hj | hj) <;> (show w.heap.size ≤ j; omega)
      · exact belC hB
end Go.Proofs.YtghdhhbpbmhooaaGreat
