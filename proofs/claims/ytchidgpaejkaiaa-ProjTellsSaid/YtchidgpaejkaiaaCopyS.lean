import Derived.Test.YtchidgpaejkaiaaCopy
/- projections, copied: each chain in a block of its own -/
namespace Go.Proofs.Ytchidgpaejkaiaa
open Go.RowKit Esch
attribute [local go_sem ↓] Go.wp_at_zero Go.wp_at_succ

theorem OwnI.toInts {w : World} {B : Nat} {a : Option Addr} {c : Nat} {l : List Int} (h : OwnI w B (.slice a l.length c) l) : IntsAt (From B) w a l := by
  obtain ⟨a', c', e, h2, -⟩ := h.ints
  cases e
  exact h2
def OwnPost (w : World) (l : List Int) (e : Ending) (w' : World) : Prop := ∃ a c, e = .returned (.slice a l.length c) ∧ OwnI w' w.heap.size (.slice a l.length c) l ∧ Below w.heap.size w w' ∧ CapOk l c
set_option maxHeartbeats 1000000 in
theorem cloneO_any (S : Nat → Prop) (w : World) (a : Option Addr) (c : Nat) (l : List Int) (hl : l.length ≤ 1000) (h : IntsAt S w a l) :
    Calls Try.prog 59 #[.slice a l.length c] w (OwnPost w l) := by
  obtain ⟨hm, h⟩ := h
  have H := Lib.hid h
  clear h
  obtain ⟨i0, hi, hz0, hz1, hz2⟩ := info_parts Try.infoInt
  have q22 : ∀ (w : World) (a : Option Addr) (n c n' c' : Nat), (binOp .eql 45 (.slice a n c) (.slice none n' c')).run Try.prog w = .ok (.bool a.isNone) w := fun w a n c n' c' => Lib.run_eql_slice_nil w _ _ a n c n' c' Try.underlying45
  cases a with
  | none =>
    have h0 : l.length = 0 := by
      rcases Nat.eq_zero_or_pos l.length with e | hp
      · exact e
      · obtain ⟨b, off, e, -⟩ := H.out hp; cases e
    have : l = [] := List.length_eq_zero_iff.1 h0
    subst this
    clear h0 hi hz0 hz1 hz2
    go_enter Try.func59, Try.ntmps59
    go_wp2_with fail
    go_ret
    exact ⟨none, 0, rfl, OwnI.nil _ _, Below.refl _ _, by simp, by omega⟩
  | some ad =>
    have hnew : ∀ j u, (l.map (Value.int .i64))[j]? = some u → (w.alloc (.cells #[] 3)).cell? (ad.add j) = some u := by
      intro j u hu
      have hj := (List.getElem?_eq_some_iff.1 hu).1
      obtain ⟨b, off, e, -, hb, hcc⟩ := H.out (by simp at hj; omega)
      cases e
      rw [World.cell?_alloc_lt _ _ _ (by unfold Addr.add; split <;> exact hb)]
      exact IntsAt.news hcc j u hu
    have HN := Lib.hid hnew
    clear hnew
    go_enter Try.func59, Try.ntmps59
    go_wp2_with (at_builtin; refine wpList_append_own _ rfl _ _ 45 rfl w.heap.size 3 i0 (.int .i64 0) 1 8 Try.underlying45 hi hz0 hz1 hz2 rfl (by decide) _ _ _ rfl (World.ownsRow_made w #[] 0 (Nat.le_refl _) (Nat.zero_le _) rfl) ad l.length c (l.map (Value.int .i64)) rfl ?qc1 ?qc2 ?qc3 ?qc4 ?qc5 ?qc6 ?_)
    case qc1 => simp
    case qc2 => exact HN.out
    case qc3 => exact one_ints l
    case qc4 => unfold Go.maxLen; omega
    case qc5 => omega
    case qc6 => simp
    intro v' w1 hown hgrow hnil
    have HNI := Lib.hid hnil
    clear hnil
    go_wp2
    go_ret
    have hown' : OwnI w1 w.heap.size v' l := by unfold OwnI; simpa using hown
    obtain ⟨a', c', rfl, h2, h3, h4, -⟩ := hown'.ints
    exact ⟨a', c', rfl, hown', ((Below.refl _ w).alloc (Nat.le_refl _) _).grown hgrow (by simp) (by intro k hk; simp [Value.ownBlock] at hk; omega), h3, h4⟩

/-- each chain that is not empty lies in a block of its own, which may be written -/
def Sep (w : World) (xs : List Value) (ls : List (List Int)) : Prop := ∃ blk : Nat → Nat, ∀ i, i < ls.length → 0 < (ls.getD i []).length →
  (∃ ic, xs[i]? = some (.slice (some ⟨blk i, 0, none⟩) (ls.getD i []).length ic)) ∧ blk i < w.heap.size ∧ (∀ o, w.frozen? ⟨blk i, o, none⟩ = false) ∧ ∀ j, j < i → 0 < (ls.getD j []).length → blk j ≠ blk i
theorem Sep.nil (w : World) : Sep w [] [] := ⟨fun _ => 0, fun i hi => absurd hi (by simp)⟩
/-- what a copy's memory is -/
def SepAt (B : Nat) (w : World) (a : Option Addr) (ls : List (List Int)) : Prop := ls = [] ∨ ∃ (g : Nat) (blk : Nat → Nat), a = some ⟨g, 0, none⟩ ∧ B ≤ g ∧ g < w.heap.size ∧ ∀ i, i < ls.length → ∃ ia ic, w.cell? ⟨g, i, none⟩ = some (.slice ia (ls.getD i []).length ic) ∧
  (0 < (ls.getD i []).length → ia = some ⟨blk i, 0, none⟩ ∧ blk i ≠ g ∧ B ≤ blk i ∧ blk i < w.heap.size ∧ (∀ o, w.frozen? ⟨blk i, o, none⟩ = false) ∧ (∀ k, k < (ls.getD i []).length → w.cell? ⟨blk i, k, none⟩ = some (.int .i64 ((ls.getD i []).getD k 0))) ∧ ∀ j, j < i → 0 < (ls.getD j []).length → blk j ≠ blk i)
def CopyPostS (w : World) (ep : Int) (ls : List (List Int)) (e : Ending) (w' : World) : Prop := ∃ a c, e = .returned (.agg #[.int .i64 ep, .slice a ls.length c]) ∧ ListsAt (From w.heap.size) w' a ls ∧ Below w.heap.size w w' ∧ SepAt w.heap.size w' a ls
def CopyRelS (w0 : World) (qb B : Nat) (ep : Int) (rb : Nat) (ls : List (List Int)) (g : Nat) (s12 : Value) (wr : World) : Prop :=
  ∃ (k : Nat) (va : Option Addr) (vc : Nat) (xs : List Value), g = ls.length - k ∧ k ≤ ls.length ∧ s12 = .int .i64 k ∧ CopyAt w0 qb B ep va vc xs (ls.take k) wr ∧ wr.cell? ⟨rb, 0, none⟩ = some (.int .i64 0) ∧ wr.cell? ⟨rb, 1, none⟩ = some (.slice none 0 0) ∧ wr.frozen? ⟨rb, 0, none⟩ = false ∧ wr.frozen? ⟨rb, 1, none⟩ = false ∧ Sep wr xs (ls.take k)
theorem Sep.step {w0 wr w2 w4 : World} {qb k : Nat} {ep : Int} {va : Option Addr} {vc : Nat} {xs : List Value} {pre : List (List Int)} {l : List Int} {ja : Option Addr} {jc : Nat} {o : Obj} (hS : Sep wr xs pre) (hC : CopyAt w0 qb (qb + 1) ep va vc xs pre wr) (hB2 : Below wr.heap.size wr w2)
    (ho2 : OwnI w2 wr.heap.size (.slice ja l.length jc) l) (hgrow : (w2.alloc o).grownBy w4 (Value.slice va k vc).ownBlock) (hk : pre.length = k) (u : Value) :
    Sep (w4.setCell ⟨qb, 1, none⟩ u) (xs ++ [.slice ja l.length jc]) (pre ++ [l]) := by
  subst hk
  obtain ⟨blk, hb⟩ := hS
  have hz := hB2.size
  have hql := cell_lt hC.c0
  have hgz := hgrow.size
  simp only [World.size_alloc] at hgz
  have hxl : xs.length = pre.length := hC.heads.1
  have hold : ∀ i, i < pre.length → (pre ++ [l]).getD i [] = pre.getD i [] := fun i hi => by simp [List.getD_eq_getElem?_getD, List.getElem?_append_left hi]
  have hnew : (pre ++ [l]).getD pre.length [] = l := by simp [List.getD_eq_getElem?_getD]
  obtain ⟨g2, hg2⟩ : ∃ g2, 0 < l.length → ja = some ⟨g2, 0, none⟩ ∧ wr.heap.size ≤ g2 ∧ ∃ cur, w2.heap[g2]? = some (.cells cur 3 (0, 0)) := by
    rcases ho2.2 with ⟨e, h0⟩ | ⟨g, cap, cur, e, hbg, hg, -⟩
    · exact ⟨0, fun h => by omega⟩
    · cases e; exact ⟨g, fun _ => ⟨rfl, hbg, cur, hg⟩⟩
  refine ⟨fun i => if i < pre.length then blk i else g2, fun i hi h0 => ?_⟩
  dsimp only
  simp only [List.length_append, List.length_cons, List.length_nil] at hi
  by_cases hip : i < pre.length
  · rw [hold i hip] at h0 ⊢
    obtain ⟨⟨ic, h1⟩, h2, h3, h4⟩ := hb i hip h0
    have hne : (Value.slice va pre.length vc).ownBlock ≠ some (blk i) ∧ qb + 1 ≤ blk i := by
      obtain ⟨ia, ic', g1, g2', -⟩ := hC.heads.2 i hip
      rw [h1] at g1
      cases g1
      obtain ⟨b, off, e, ⟨s1, s2⟩, -⟩ := g2'.2 h0
      cases e
      exact ⟨s2, s1⟩
    have hbl := copy_keeps (qb := qb) hB2 hgrow u h2 (by omega) hne.1
    refine ⟨⟨ic, ?_⟩, ?_, fun o => ?_, fun j hj hj0 => ?_⟩
    · rw [List.getElem?_append_left (by omega), h1, if_pos hip]
    · rw [if_pos hip, World.size_setCell]; omega
    · rw [if_pos hip]; exact (World.frozen?_of_block hbl).trans (h3 o)
    · rw [if_pos hip, if_pos (by omega)]
      rw [hold j (by omega)] at hj0
      exact h4 j hj hj0
  · obtain rfl : i = pre.length := by omega
    rw [hnew] at h0 ⊢
    obtain ⟨rfl, h1, cur, h2⟩ := hg2 h0
    have hg2l := block_lt h2
    have hne : (Value.slice va pre.length vc).ownBlock ≠ some g2 := by
      rcases hC.row.2 with ⟨e, -⟩ | ⟨g, cap', cur, e, hbg, hg, -⟩
      · rw [e]; simp [Value.ownBlock]
      · rw [e]; intro e; have e : g = g2 := Option.some.inj e; have := block_lt hg; omega
    have hbl : (w4.setCell ⟨qb, 1, none⟩ u).heap[g2]? = w2.heap[g2]? := by
      rw [Below.heap_setCell _ _ _ _ (by show g2 ≠ qb; omega), hgrow.block g2 (by simp only [World.size_alloc]; omega) (fun e => hne e.symm), Below.heap_alloc _ _ _ hg2l]
    refine ⟨⟨jc, ?_⟩, ?_, fun o => ?_, fun j hj hj0 => ?_⟩
    · rw [← hxl, List.getElem?_concat_length, if_neg (by omega)]
    · rw [if_neg (by omega), World.size_setCell]; omega
    · rw [if_neg (by omega), World.frozen?_of_block hbl]
      simp [World.frozen?, h2]
    · rw [if_pos hj, if_neg (by omega)]
      rw [hold j hj] at hj0
      have := (hb j hj hj0).2.1
      omega
theorem sep_out {w w' : World} {B B0 : Nat} {va : Option Addr} {vc : Nat} {xs : List Value} {ls : List (List Int)} {F : Nat → Prop} (hrow : w.ownsRow B 45 1 (.slice va ls.length vc) ls.length xs) (hh : HeadsOf (fun j => B ≤ j ∧ (Value.slice va ls.length vc).ownBlock ≠ some j) w xs ls)
    (hs : Sep w xs ls) (hB : B0 ≤ B) (hM : Mod F w w') (hF : ∀ j, B ≤ j → ¬ F j) : SepAt B0 w' va ls := by
  rcases hrow.2 with ⟨e, h0⟩ | ⟨g, cap, cur, e, hbg, hg, hr⟩
  · exact Or.inl (List.eq_nil_of_length_eq_zero h0)
  · cases e
    obtain ⟨blk, hb⟩ := hs
    refine Or.inr ⟨g, blk, rfl, by omega, Nat.lt_of_lt_of_le (block_lt hg) hM.size, fun i hi => ?_⟩
    obtain ⟨ia, ic, h1, h2, -⟩ := hh.2 i hi
    have hcell : w.cell? ⟨g, i, none⟩ = some (.slice ia (ls.getD i []).length ic) := by
      have hx := hrow.cells (g := g) rfl i _ h1
      rwa [show ((⟨g, 0, none⟩ : Addr).add i) = ⟨g, i, none⟩ from by unfold Addr.add; by_cases e : i = 0 <;> simp [e]] at hx
    refine ⟨ia, ic, hM.at hcell (hF g hbg), fun h0 => ?_⟩
    obtain ⟨⟨ic', g1⟩, g2, g3, g4⟩ := hb i hi h0
    rw [h1] at g1
    cases g1
    obtain ⟨b, off, e, ⟨s1, s2⟩, s3, s4⟩ := h2.2 h0
    cases e
    refine ⟨rfl, fun e => s2 (by rw [e]; rfl), by omega, Nat.lt_of_lt_of_le g2 hM.size, fun o => (hM.frozen (p := ⟨blk i, o, none⟩) g2 (hF _ s1)).trans (g3 o), fun k hk => ?_, g4⟩
    have := s4 k hk
    rw [Nat.zero_add] at this
    exact hM.at this (hF _ s1)
set_option maxRecDepth 100000 in
set_option maxHeartbeats 2000000 in
theorem copyS_any (S : Nat → Prop) (w : World) (ep : Int) (a : Option Addr) (c : Nat) (ls : List (List Int)) (hs : Small ls) (h : ListsAt S w a ls) :
    Calls Try.prog 36 #[.agg #[.int .i64 ep, .slice a ls.length c]] w (CopyPostS w ep ls) := by
  have Hs := Lib.hid hs
  have hn := hs.1
  clear hs
  obtain ⟨hm, h⟩ := h
  have H := Lib.hid h
  clear h
  obtain ⟨i0, hi, hz0, hz1, hz2⟩ := info_parts Try.infoInts
  go_enter Try.func36, Try.ntmps36
  go_wp2_with fail
  have hB0 : Below w.heap.size w ((((w.alloc (.cells #[.int .i64 ep, .slice a ls.length c] 24)).alloc (.cells #[.int .i64 0, .slice none 0 0] 24)).alloc (.cells #[.int .i64 ep, .slice none 0 0] 24))) := by (repeat (first | with_reducible exact (Below.refl _ _) | with_reducible refine Below.drew ?_ | with_reducible refine Esch.below_drewN ?_ _ | with_reducible refine Below.setCell ?_ (by first | omega | (simp; done) | (simp; omega)) _ | with_reducible refine Below.alloc ?_ (by first | omega | (simp; done) | (simp; omega)) _))
  obtain ⟨W0, hW0⟩ : ∃ W0, W0 = (((w.alloc (.cells #[.int .i64 ep, .slice a ls.length c] 24)).alloc (.cells #[.int .i64 0, .slice none 0 0] 24)).alloc (.cells #[.int .i64 ep, .slice none 0 0] 24)) := ⟨_, rfl⟩
  have r0 : W0.cell? ⟨w.heap.size + 1, 0, none⟩ = some (.int .i64 0) := by rw [hW0]; go_simp
  have r1 : W0.cell? ⟨w.heap.size + 1, 1, none⟩ = some (.slice none 0 0) := by rw [hW0]; go_simp
  have r2 : W0.frozen? ⟨w.heap.size + 1, 0, none⟩ = false := by rw [hW0]; go_simp
  have r3 : W0.frozen? ⟨w.heap.size + 1, 1, none⟩ = false := by rw [hW0]; go_simp
  have q0 : W0.cell? ⟨w.heap.size + 1 + 1, 0, none⟩ = some (.int .i64 ep) := by rw [hW0]; go_simp
  have q1 : W0.cell? ⟨w.heap.size + 1 + 1, 1, none⟩ = some (.slice none 0 0) := by rw [hW0]; go_simp
  have q3 : W0.frozen? ⟨w.heap.size + 1 + 1, 1, none⟩ = false := by rw [hW0]; go_simp
  rw [← hW0] at hB0 ⊢
  have HW0 := Lib.hid hW0
  clear hW0
  obtain ⟨rb, hrb⟩ : ∃ rb, rb = w.heap.size + 1 := ⟨_, rfl⟩
  obtain ⟨qb, hqb⟩ : ∃ qb, qb = w.heap.size + 1 + 1 := ⟨_, rfl⟩
  rw [← hqb] at q0 q1 q3 ⊢
  rw [← hrb] at r0 r1 r2 r3 ⊢
  have hrq : w.heap.size < rb ∧ rb < qb := by omega
  clear hqb hrb
  go_loopg [12] ls.length (fun g s12 wr => CopyRelS w qb (qb + 1) ep rb ls g s12 wr)
  case atStart => exact ⟨0, none, 0, [], rfl, Nat.zero_le _, rfl, ⟨q0, q1, q3, World.ownsRow_nil _ _ _ _, HeadsOf.nil _ _, hB0⟩, r0, r1, r2, r3, Sep.nil _⟩
  case round =>
    clear r0 r1 r2 r3 q0 q1 q3 hB0
    obtain ⟨k, va, vc, xs, rfl, hk, rfl, hC, hr0, hr1, hf0, hf1, hsp⟩ := hrel
    have HSP := Lib.hid hsp
    clear hsp
    by_cases hlt : k < ls.length
    · obtain ⟨b, off, rfl, -, hb, hc⟩ := H.out (by omega)
      obtain ⟨ia, ic, hc1, hi1, -⟩ := hc k hlt
      clear hc
      have hl50 := Hs.out.2 k hlt
      have HT := Lib.hid (take_getD' hlt)
      replace hc1 := below_at hC.below hc1 hb
      have hi2 := hi1.mod (Mod.of_below (F := none') hC.below) (fun _ _ _ => id)
      clear hi1
      have hk1 : (0 : Int) ≤ k := by omega
      have hk2 : (k : Int) < ls.length := by omega
      generalize ls.getD k [] = l at *
      have hcl1 := cloneO_any S wr.drew ia ic l (by omega) hi2
      have htl : (ls.take k).length = k := by simp; omega
      have hq1 := hC.c1
      have hqf := hC.f1
      have hrow := hC.row
      have hown := hC.own_ne (Nat.lt_succ_self qb)
      rw [htl] at hq1 hrow hown
      have hql := cell_lt hq1
      have HC := Lib.hid hC
      clear hC hi2
      go_wp2_with fail
      go_region_law
        (first
          | (refine step_append_lies _ (by rfl) _ _ _ (by rfl) (qb + 1) 45 i0 _ 1 24 Try.underlying22 hi hz0 hz1 hz2 rfl (by omega) (.slice va k vc) k xs (by rfl) ((own_below hrow.drew hB2).alloc _) ⟨w2.heap.size, 0, none⟩ 1 1 [.slice ja l.length jc] (by rfl) (by rfl)
              (World.news_of_block (cs := #[.slice ja l.length jc]) (t := 45) (fr := (0, 0)) (heap_alloc_new _ _)) (by simp [Value.oneCell']) (by omega) (by unfold Go.maxLen; omega) (by omega) (by simp only [World.size_alloc]; omega) (w2.heap.size + 1) (by simp) ?_; intro gg cap w4 hown1 hgrow hat hlt4; have hq4 := (hgrow.cell_far ⟨qb, 1, none⟩ (by simp only [World.size_alloc]; omega) (fun e => hown e.symm)).trans ((cell_alloc_lt _ _ _ _ (by omega)).trans hq2); have hq5 := (hgrow.frozen_far ⟨qb, 1, none⟩ (by simp only [World.size_alloc]; omega) (fun e => hown e.symm)).trans ((frozen_alloc_lt _ _ _ _ (by omega)).trans hq3))
          | (go_simp; go_at_call 59; (with_reducible refine hcl1.mono ?_); rintro e w2 ⟨ja, jc, rfl, ho2, hB2, hcp⟩; have hi2 := ho2.toInts; have HO2 := Lib.hid ho2; clear ho2; have hzw : wr.heap.size ≤ w2.heap.size := hB2.size; have hql2 : qb < w2.heap.size := (by omega); have hq2 := below_at hB2 hq1 hql; have hq3 := (hB2.frozen (p := ⟨qb, 1, none⟩) hql).trans hqf))
      all_goals go_wp2_with fail
      all_goals
        have hHC := HC.out
        have hB2' : Below wr.heap.size wr w2 := below_drew hB2
        have HR := Lib.hid (hHC.step (jc := jc) hB2' hi2 hown1 hgrow hat htl (by omega) hq5 hq4 hcp)
        have hr : rb < wr.heap.size := cell_lt hr0
        have hon := hHC.own_ne (j := rb) (by omega)
        rw [htl] at hon
        have HK := Lib.hid (copy_keeps (qb := qb) hB2' hgrow (.slice (some ⟨gg, 0, none⟩) (k + 1) cap) hr (by omega) hon)
        have HSS := Lib.hid (HSP.out.step hHC hB2' HO2.out hgrow htl (.slice (some ⟨gg, 0, none⟩) (k + 1) cap))
        clear hHC hB2'
        go_roundg (ls.length - (k + 1))
      all_goals first
        | (show _ < _; omega)
        | exact ⟨k + 1, some ⟨gg, 0, none⟩, cap, _, rfl, by omega, by go_num, by rw [HT.out]; exact HR.out, (World.cell?_of_block HK.out).trans hr0, (World.cell?_of_block HK.out).trans hr1, (World.frozen?_of_block HK.out).trans hf0, (World.frozen?_of_block HK.out).trans hf1, by rw [HT.out]; exact HSS.out⟩
    · have hk3 : k = ls.length := by omega
      subst hk3
      obtain ⟨hq0, hq1, -, hrow, hhd, hB⟩ := hC
      rw [List.take_length] at hq1 hrow hhd
      have Hhd := Lib.hid hhd
      have Hrow := Lib.hid hrow
      clear hhd hrow
      go_wp2_with fail
      obtain ⟨a', c', he, hls⟩ := own_lists Hrow.out rfl Hhd.out.2
      simp only [Value.slice.injEq] at he
      obtain ⟨rfl, -, rfl⟩ := he
      refine bodyPost_ret (v := .agg #[.int .i64 ep, .slice va ls.length vc]) (by simp only [results, Try.results36]; go_simp) rfl ?_
      refine ⟨va, vc, rfl, ?_, ?_, ?_⟩
      · refine (hls.mod (F := (· = rb)) (by (repeat' (first | (with_reducible exact (Mod.refl _ _)) | (with_reducible apply Mod.drew) | (with_reducible apply Mod.drewN) | (with_reducible apply Mod.alloc) | (with_reducible apply Mod.setCellAt) | (intro _; first | rfl | exact Or.inl rfl | exact Or.inr rfl) | (intro h; exfalso; omega)))) ?_).sub ?_
        · rintro j (hj | hj) - rfl <;> omega
        · rintro j - (hj | hj) <;> (show w.heap.size ≤ j; omega)
      · (repeat (first | with_reducible exact hB | with_reducible refine Below.drew ?_ | with_reducible refine Esch.below_drewN ?_ _ | with_reducible refine Below.setCell ?_ (by first | omega | (simp; done) | (simp; omega)) _ | with_reducible refine Below.alloc ?_ (by first | omega | (simp; done) | (simp; omega)) _))
      · have hsp := HSP.out
        rw [List.take_length] at hsp
        refine sep_out Hrow.out Hhd.out hsp (show w.heap.size ≤ qb + 1 by omega) (F := (· = rb)) (by (repeat' (first | (with_reducible exact (Mod.refl _ _)) | (with_reducible apply Mod.drew) | (with_reducible apply Mod.drewN) | (with_reducible apply Mod.alloc) | (with_reducible apply Mod.setCellAt) | (intro _; first | rfl | exact Or.inl rfl | exact Or.inr rfl) | (intro h; exfalso; omega)))) ?_
        rintro j hj rfl
        omega
end Go.Proofs.Ytchidgpaejkaiaa
