/- package tree: reached -/
import Derived.Test.YtmnkackkeppheaaGreatReachM
import Derived.Test.YtmnkackkeppheaaGreatPkDir
import Derived.Test.YtmnkackkeppheaaGreatPkTre
namespace Go.Proofs.YtmnkackkeppheaaGreat
open Go.RowKit Esch Go.Shelf

theorem src_int {P : Program} {W : World} (tx e' : TypeId) (hk : P.underlying tx = some (.slice e')) (b : Nat) (a : Int) (t : TypeId) (hb : W.heap[b]? = some (.cells #[.int .i64 a] t)) (c : Nat) : Src P 1 tx (.slice (some ⟨b, 0, none⟩) 1 c) 1 [.int .i64 a] W := by
  refine Src.ofSlice W hk _ 1 c [.int .i64 a] rfl (fun j u hu => ?_) (fun u hu => ?_)
  · have hj := (List.getElem?_eq_some_iff.1 hu).1
    simp only [List.length_cons, List.length_nil] at hj
    obtain rfl : j = 0 := by omega
    rw [addr_add, Nat.add_zero]
    simp [World.cell?, hb] at hu ⊢
    exact hu
  · simp only [List.mem_cons, List.not_mem_nil, or_false] at hu
    subst hu; rfl
theorem Tryz.infoInt : (Tryz.prog.info? 3).map (fun i => (i.zero, i.size, i.bytes)) = some (some (.int .i64 0), 1, 8) := by kernel_rfl
def ReachPost (w : World) (l : List Ent) (e : Ending) (w' : World) : Prop :=
  ∃ mb nb M C, e = .returned (.tuple #[.map (some mb), .map (some nb)]) ∧ MpAt w' mb iV iV M ∧ MpAt w' nb iV iV C ∧ (∀ i, Rch l i ↔ val0 M i ≠ 0) ∧ (∀ i, val0 C i = (namesN l i : Nat)) ∧ Below w.heap.size w w'
def Lp1 (W4 : World) (nb lb : Nat) (l : List Ent) (g : Nat) (s20 : Value) (wr : World) : Prop :=
  ∃ (i : Nat) (C : List (Int × Int)) (m : List (Int × HdR)) (R : Int → Nat → Prop), g = l.length - i ∧ i ≤ l.length ∧ s20 = .int .i64 i ∧ MpAt wr nb iV iV C ∧ (∀ j, val0 C j = (namesN (l.take i) j : Nat)) ∧
    LeadsAt wr lb W4.heap.size m R (leadsOf (l.take i)) ∧ Mod (fun k => k = nb ∨ k = lb) W4 wr
def Lp2 (WB : World) (mb : Nat) (l : List Ent) (U : List Int) (g : Nat) (s7 : Value) (wr : World) : Prop :=
  ∃ (M : List (Int × Int)) (todo : List Int) (ao : Option Addr) (cap tl : Nat), g = unmet U M + todo.length ∧ tl = todo.length ∧ g ≤ 100001 ∧ s7 = .slice ao tl cap ∧ MpAt wr mb iV iV M ∧ Bfs l M todo (fun _ => False) ∧
    GRowAt wr (From WB.heap.size) 1 tl cap ao (nums todo) ∧ Mod (· = mb) WB wr
def Lp3 (WB : World) (mb : Nat) (l : List Ent) (U : List Int) (G : Nat) (d : Int) (g : Nat) (s7 s53 : Value) (wr : World) : Prop :=
  ∃ (j : Nat) (M : List (Int × Int)) (r : List Int) (ao : Option Addr) (cap tl : Nat), g = (leadsOf l d).length - j ∧ j ≤ (leadsOf l d).length ∧ s53 = .int .i64 j ∧ G = unmet U M + r.length + 1 ∧ tl = r.length + 1 ∧ s7 = .slice ao tl cap ∧ MpAt wr mb iV iV M ∧
    (Bfs l M r (· = d) ∧ val0 M d ≠ 0) ∧ (∀ i ∈ (leadsOf l d).take j, val0 M i ≠ 0) ∧ GRowAt wr (From WB.heap.size) 1 tl cap ao (nums (d :: r)) ∧ Mod (· = mb) WB wr
theorem zeroI (w : World) : (zeroValue 3).run Tryz.prog w = .ok (.int .i64 0) w := Tryz.zeroValue3 w
theorem zeroLs (w : World) : (zeroValue 152).run Tryz.prog w = .ok (.slice none 0 0) w := Tryz.zeroValue152 w
set_option maxRecDepth 100000 in
set_option maxHeartbeats 8000000 in
theorem reached_any (w : World) (b : Nat) (S : Nat → Prop) (s : TrS) (h : TreeAt w b S s) (hl : s.n.m.length ≤ 100000) :
    Calls Tryz.prog 127 #[.pointer (some ⟨b, 0, none⟩)] w (ReachPost w s.n.m) := by
  have hmm := @run_makeMap Tryz.prog
  have h0 : MpAt (w.alloc (.map #[] 0)) w.heap.size iV iV ([] : List (Int × Int)) := ⟨#[], 0, alloc_new _ _, rfl, List.nodup_nil, List.Pairwise.nil, fun e h => by simp at h⟩
  obtain ⟨W1, hu, hm, hM, hz⟩ := MapAt.upz h0 keyInt Tryz.underlying195 1 1
  simp only [iV] at hu
  rw [show Esch.set ([] : List (Int × Int)) 1 1 = [(1, 1)] from rfl] at hm
  have hB1 : Below w.heap.size w W1 := ((Below.refl _ w).alloc (Nat.le_refl _) _).trans (hM.below_at (by simp) (fun k hk e => by omega))
  simp only [World.size_alloc] at hz
  obtain ⟨W3, hW3⟩ : ∃ W3, W3 = (W1.alloc (.map #[] 0)).alloc (.map #[] 0) := ⟨_, rfl⟩
  have hB3 : Below w.heap.size w W3 := by rw [hW3]; exact belC hB1
  have hz3 : W3.heap.size = w.heap.size + 3 := by rw [hW3]; simp; omega
  have hn3 : MpAt W3 (w.heap.size + 1) iV iV ([] : List (Int × Int)) := ⟨#[], 0, by rw [hW3, alloc_old _ _ _ (by simp; omega), ← hz]; exact alloc_new _ _, rfl, List.nodup_nil, List.Pairwise.nil, fun e h => by simp at h⟩
  have hl3 : MpAt W3 (w.heap.size + 2) iV hdRV ([] : List (Int × HdR)) := ⟨#[], 0, by
    have := alloc_new (W1.alloc (.map #[] 0)) (.map #[] 0)
    rw [World.size_alloc, hz] at this
    rw [hW3]; exact this, rfl, List.nodup_nil, List.Pairwise.nil, fun e h => by simp at h⟩
  have hm3 : MpAt W3 w.heap.size iV iV [((1 : Int), (1 : Int))] := by rw [hW3]; exact hm.mod (F := none') (by exact modC (Mod.refl _ _)) id
  obtain ⟨sb, lt, ib, tb, S1, S2, c0, c1, ht, hn, s1, s2, dd, b1, b2⟩ := h
  have hal := dirAll_any W3 tb S2 s.n (hn.mod (F := none') (Mod.of_below hB3) (fun _ _ => id)) hl
  have c1b := below_at hB3 c1 (cell_lt c1)
  have c1a : W1.cell? ⟨b, 1, none⟩ = some (.pointer (some ⟨tb, 0, none⟩)) := below_at hB1 c1 (cell_lt c1)
  have hlb1 := cell_lt c1a
  have hlb2 : b < w.heap.size + 1 := by omega
  have hlb3 : b < w.heap.size + 1 + 1 := by omega
  obtain ⟨m, hmm'⟩ : ∃ m, m = s.n.m := ⟨_, rfl⟩
  rw [← hmm'] at hal hl ⊢
  have HW3 := Lib.hid hW3
  have HB3 := Lib.hid hB3
  have HM3 := Lib.hid hm3
  have HN3 := Lib.hid hn3
  have HL3 := Lib.hid hl3
  have Hl := Lib.hid hl
  clear h0 hm hM hB1 hW3 hB3 hn3 hl3 hm3 ht hn s1 s2 dd b1 b2 c0 sb lt hmm' hl
  obtain ⟨i0, hi, hy0, hy1, hy2⟩ := info_parts Tryz.infoInt
  go_enter Tryz.func127, Tryz.ntmps127
  go_wp2_with fail
  rw [show w.heap.size + 1 + 1 = w.heap.size + 2 from rfl]
  rw [← HW3.out]
  refine hal.mono ?_
  clear hal
  rintro e W4 ⟨ao, cap, l, rfl, hsl, he, hcp, hB34⟩
  have hB4 : Below w.heap.size w W4 := HB3.out.trans (hB34.mono HB3.out.size)
  have hm4 : MpAt W4 w.heap.size iV iV [((1 : Int), (1 : Int))] := HM3.out.mod (F := none') (Mod.of_below hB34) id
  have hn4 : MpAt W4 (w.heap.size + 1) iV iV ([] : List (Int × Int)) := HN3.out.mod (F := none') (Mod.of_below hB34) id
  have hl4 : MpAt W4 (w.heap.size + 2) iV hdRV ([] : List (Int × HdR)) := HL3.out.mod (F := none') (Mod.of_below hB34) id
  have hpl : l.Perm m := by have := hsl.1; rwa [List.filter_eq_self.2 (fun _ _ => rfl)] at this
  have hll : l.length ≤ 100000 := by rw [hpl.length_eq]; exact Hl.out
  have hz4 : w.heap.size + 3 ≤ W4.heap.size := by rw [← hz3]; exact hB34.size
  have HP := Lib.hid hpl
  have Hll := Lib.hid hll
  have HB4 := Lib.hid hB4
  have HM4 := Lib.hid hm4
  have HE := Lib.hid he
  have HN4 := Lib.hid hn4
  have HL4 := Lib.hid hl4
  clear hsl he hcp hB34 hB4 hm4 hn4 hl4 hpl hll HW3 HB3 HM3 HN3 HL3 Hl c1b c1a hlb1 hlb2 hlb3 hmm hu hz
  go_wp2_with fail
  go_loopg [20] l.length (fun g s20 wr => Lp1 W4 (w.heap.size + 1) (w.heap.size + 2) l g s20 wr)
  case atStart => exact ⟨0, [], [], _, rfl, Nat.zero_le _, rfl, HN4.out, fun j => rfl, LeadsAt.new HL4.out, Mod.refl _ _⟩
  case round =>
    obtain ⟨i, C, mm, R, rfl, hil, rfl, hC, hCv, hL, hMw⟩ := hrel
    have HC := Lib.hid hC
    have HCv := Lib.hid hCv
    have HL := Lib.hid hL
    have HMw := Lib.hid hMw
    clear hC hCv hL hMw
    by_cases hlt : i < l.length
    · obtain ⟨bk, off, rfl, hSb, hbl, hc⟩ := HE.out (by omega)
      obtain ⟨e0, e1, e2⟩ := hc i hlt
      have hSb : W3.heap.size ≤ bk := hSb
      have f0 := HMw.out.at e0 (by omega)
      have f1 := HMw.out.at e1 (by omega)
      have f2 := HMw.out.at e2 (by omega)
      have hbl' : bk < wr.heap.size := cell_lt f0
      have hi1 : i + 1 ≤ l.length := hlt
      have hms : l.length - (i + 1) < l.length - i := by omega
      have hwr1 := Lib.hid (show wrap64 ((i : Int) + 1) = ((i + 1 : Nat) : Int) by unfold wrap64; have := Hll.out; omega)
      have hil2 : (0 : Int) ≤ i ∧ (i : Int) < l.length := by omega
      have htk : l.take (i + 1) = l.take i ++ [l.getD i default] := by
        rw [List.take_succ_eq_append_getElem hlt, List.getD_eq_getElem?_getD, List.getElem?_eq_getElem hlt]; rfl
      have HT := Lib.hid htk
      generalize l.getD i default = ent at *
      obtain ⟨⟨ed, en⟩, ei⟩ := ent
      clear e0 e1 e2 hc htk
      obtain ⟨W5, hW5⟩ : ∃ W5, W5 = wr.alloc (.cells #[.int .i64 ed, .string (bs en), .int .i64 ei] 106) := ⟨_, rfl⟩
      have hB5 : Below wr.heap.size wr W5 := by rw [hW5]; exact belC (Below.refl _ _)
      have g0 : W5.cell? ⟨wr.heap.size, 0, none⟩ = some (.int .i64 ed) := by rw [hW5]; go_simp
      have g2 : W5.cell? ⟨wr.heap.size, 2, none⟩ = some (.int .i64 ei) := by rw [hW5]; go_simp
      have hz5 : W5.heap.size = wr.heap.size + 1 := by rw [hW5]; simp
      have hC5 := HC.out.mod (F := none') (Mod.of_below hB5) id
      have hk5 := look0 hC5 keyInt Tryz.underlying195 zeroI ei
      obtain ⟨W6, hu6, hC6, hM6, hz6⟩ := MapAt.upz hC5 keyInt Tryz.underlying195 ei (val0 C ei + 1)
      simp only [iV] at hu6
      have hv0 : 0 ≤ val0 C ei ∧ val0 C ei ≤ 100000 := by
        rw [HCv.out ei]
        have h1 := namesN_le (l.take i) ei
        rw [List.length_take] at h1
        have h2 := Hll.out
        omega
      have hwr : IntKind.i64.wrap (val0 C ei + 1) = val0 C ei + 1 := by rw [IntKind.wrap_i64]; omega
      have HW5 := Lib.hid hW5
      rw [hW5] at hk5 hu6
      have HCn := Lib.hid (names_put ((ed, en), ei) HCv.out)
      rw [← HT.out] at HCn
      simp only at HCn
      generalize val0 C ei = cv at *
      have HM6 := Lib.hid hM6
      have HC6 := Lib.hid hC6
      have HC5 := Lib.hid hC5
      clear hM6 hC6 hC5 hW5
      go_wp2_with fail
      have k0 := HM6.out.at g0 (by omega)
      have k2 := HM6.out.at g2 (by omega)
      have hL6 : LeadsAt W6 (w.heap.size + 2) W4.heap.size mm R (leadsOf (l.take i)) := (HL.out.mod (F := none') (Mod.of_below hB5) id (fun _ _ _ => id)).mod HM6.out (by omega) (fun d k hk e => by have := (HL.out.lo d k hk).1; omega)
      obtain ⟨⟨ha, hn, hcp⟩, hh⟩ : ∃ x, x = (get mm ed).getD hdR0 := ⟨_, rfl⟩
      have hk7 := lookH (hL6.map) keyInt Tryz.underlying251 zeroLs ed
      rw [← hh] at hk7
      simp only [hdRV] at hk7
      have hk7d : (Instr.lookup 251 (.map (some (w.heap.size + 2))) (.int .i64 ed) false).run Tryz.prog W6.drew = .ok (.slice ha hn hcp) W6.drew := by
        have := lookH (hL6.map.mod (F := none') (w' := W6.drew) (by exact modC (Mod.refl _ _)) id) keyInt Tryz.underlying251 zeroLs ed
        rw [← hh] at this
        exact this
      obtain ⟨W7, hW7⟩ : ∃ W7, W7 = (W6.alloc (.cells #[.int .i64 ei] 3)).drew := ⟨_, rfl⟩
      have hB7 : Below W6.heap.size W6 W7 := by rw [hW7]; exact belC (Below.refl _ _)
      have hz7 : W7.heap.size = wr.heap.size + 2 := by rw [hW7]; simp; omega
      have hw7 : W7.heap[wr.heap.size + 1]? = some (.cells #[.int .i64 ei] 3) := by rw [hW7, show wr.heap.size + 1 = W6.heap.size by omega]; exact alloc_new _ _
      have j0 := below_at hB7 k0 (cell_lt k0)
      have j2 := below_at hB7 k2 (cell_lt k2)
      have hk7e : (Instr.lookup 251 (.map (some (w.heap.size + 2))) (.int .i64 ed) false).run Tryz.prog (W6.alloc (.cells #[.int .i64 ei] 3)).drew = .ok (.slice ha hn hcp) (W6.alloc (.cells #[.int .i64 ei] 3)).drew := by
        rw [← hW7]
        have := lookH (hL6.map.mod (F := none') (Mod.of_below hB7) id) keyInt Tryz.underlying251 zeroLs ed
        rw [← hh] at this
        exact this
      have HW7 := Lib.hid hW7
      have hL7 := hL6.mod (F := none') (Mod.of_below hB7) id (fun _ _ _ => id)
      have hr7 := hL7.row ed
      rw [← hh] at hr7
      simp only at hr7
      have hn7 := hL7.len ed
      rw [← hh] at hn7
      have hll7 := leadsOf_len (l.take i) ed
      rw [List.length_take] at hll7
      have hhn : hn ≤ 100000 := by have := Hll.out; simp only at hn7; omega
      have HL7 := Lib.hid hL7
      clear hL7 hW7 hn7 hll7
      have HL6 := Lib.hid hL6
      clear hL6 hk7 hk5 hu6 g0 g2
      refine wp_region_held_drew (S := fun W' => W'.cell? ⟨wr.heap.size, 0, none⟩ = some (.int .i64 ed) ∧ W'.cell? ⟨wr.heap.size, 2, none⟩ = some (.int .i64 ei)) (by kernel_rfl) ⟨k0, k2⟩ (fun hHeld => ?_)
      refine takeL 0 ?_
      refine takeL 1 ?_
      refine takeL 2 ?_
      refine takeL 3 ?_
      refine takeL 4 ?_
      refine takeL 5 ?_
      refine takeL 7 ?_
      refine takeL 8 ?_
      refine wpAnyH_ready (rs := [6, 9]) (by kernel_rfl) (by simp) ?_
      refine AllReadyH.cons (o := _) rfl (fun K hK => ?_) (AllReadyH.cons (o := _) rfl (fun K hK => ?_) AllReadyH.nil)
      · go_simp
        try go_wp2_with fail
        refine hK.out _ _ ⟨k0, k2⟩ (fun hHeld => ?_)
        clear hK K
        try simp only [Act.put, List.setIfInBounds_toArray, List.set_cons_zero, List.set_cons_succ]
        refine wpAnyH_ready (rs := [9]) (by kernel_rfl) (by simp) ?_
        refine AllReadyH.cons (o := _) rfl (fun K hK => ?_) AllReadyH.nil
        go_simp
        rw [← HW7.out]
        try go_wp2_with fail
        refine hK.out _ _ ⟨j0, j2⟩ (fun hHeld => ?_)
        clear hK K
        try simp only [Act.put, List.setIfInBounds_toArray, List.set_cons_zero, List.set_cons_succ]
        refine wpAnyH_ready (rs := [10]) (by kernel_rfl) (by simp) ?_
        refine AllReadyH.cons (o := _) rfl (fun K hK => ?_) AllReadyH.nil
        refine step_append_g (by rfl) (.tmp 35) (.tmp 38) 152 152 (by rfl) 3 i0 _ 8 Tryz.underlying152 hi hy0 hy1 hy2 (by rfl) (by rfl) hr7 _ 1 [.int .i64 ei] (by rfl) (src_int _ _ Tryz.underlying152 (wr.heap.size + 1) ei 3 hw7 1) (by omega) (by omega) ?_
        intro a8 cap8 w8 hg8 hM8 hz8
        have hRe : ¬ R ed wr.heap.size := fun hk => by have := (HL.out.lo _ _ hk).2.1; omega
        have j0b := hM8.at j0 hRe
        have j2b := hM8.at j2 hRe
        have hl8 : MpAt w8 (w.heap.size + 2) iV hdRV mm := HL7.out.map.mod hM8 (fun hk => (HL7.out.lo _ _ hk).2.2 rfl)
        obtain ⟨W9, hu9, hm9, hM9, hz9⟩ := MapAt.upz hl8 keyInt Tryz.underlying251 ed ⟨a8, hn + 1, cap8⟩
        simp only [iV, hdRV] at hu9
        try go_wp2_with fail
        refine hK.out _ _ ⟨j0b, j2b⟩ (fun hHeld => ?_)
        clear hK K
        try simp only [Act.put, List.setIfInBounds_toArray]
        refine wpAnyH_ready (rs := [11]) (by kernel_rfl) (by simp) ?_
        refine AllReadyH.cons (o := _) rfl (fun K hK => ?_) AllReadyH.nil
        go_simp
        have hP := LeadsAt.put HL7.out ed ei (by have := HMw.out.size; omega) (by rw [← hh]; exact hg8) hM8 (by rw [← hh]; exact hm9) hM9
        have hfe : (fun x => if x = ed then leadsOf (l.take i) ed ++ [ei] else leadsOf (l.take i) x) = leadsOf (l.take (i + 1)) := by
          funext x
          rw [HT.out, leadsOf_snoc]
          by_cases e : x = ed
          · subst e; rfl
          · rw [if_neg e, if_neg e]
        rw [hfe] at hP
        have HP9 := Lib.hid hP
        have HC9 := Lib.hid (((HC6.out.mod (F := none') (Mod.of_below hB7) id).mod hM8 (fun hk => by have := (HL.out.lo _ _ hk).1; omega)).mod hM9 (by omega))
        have HM9 := Lib.hid ((((((HMw.out.trans (Mod.of_below hB5)).trans (HM6.out.mono (fun _ _ e => Or.inl e))).trans (Mod.of_below hB7)).trans' hM8 (fun k hk hr => by have := (HL.out.lo _ _ hr).1; omega)).trans (hM9.mono (fun _ _ e => Or.inr e))))
        have j0c := hM9.at j0b (by omega)
        have j2c := hM9.at j2b (by omega)
        clear hP hfe hm9 hM9 hM8 hg8 hl8
        try go_wp2_with fail
        refine hK.out _ _ ⟨j0c, j2c⟩ (fun hHeld => ?_)
        clear hK K
        try simp only [Act.put, List.setIfInBounds_toArray, List.set_cons_zero, List.set_cons_succ]
        refine wpAnyH_done (by kernel_rfl) ?_ _
        go_wp2_with fail
        go_roundg (l.length - (i + 1))
        case measure => exact hms
        case rel => exact ⟨i + 1, _, _, _, rfl, hi1, (by rw [hwr1.out]), HC9.out, HCn.out, HP9.out, HM9.out⟩
      · go_simp
        try go_wp2_with fail
        refine hK.out _ _ (by exact ⟨by go_simp, by go_simp⟩) (fun hHeld => ?_)
        clear hK K
        try simp only [Act.put, List.setIfInBounds_toArray, List.set_cons_zero, List.set_cons_succ]
        refine wpAnyH_ready (rs := [6]) (by kernel_rfl) (by simp) ?_
        refine AllReadyH.cons (o := _) rfl (fun K hK => ?_) AllReadyH.nil
        go_simp
        rw [← HW7.out]
        try go_wp2_with fail
        refine hK.out _ _ ⟨j0, j2⟩ (fun hHeld => ?_)
        clear hK K
        try simp only [Act.put, List.setIfInBounds_toArray, List.set_cons_zero, List.set_cons_succ]
        refine wpAnyH_ready (rs := [10]) (by kernel_rfl) (by simp) ?_
        refine AllReadyH.cons (o := _) rfl (fun K hK => ?_) AllReadyH.nil
        refine step_append_g (by rfl) (.tmp 35) (.tmp 38) 152 152 (by rfl) 3 i0 _ 8 Tryz.underlying152 hi hy0 hy1 hy2 (by rfl) (by rfl) hr7 _ 1 [.int .i64 ei] (by rfl) (src_int _ _ Tryz.underlying152 (wr.heap.size + 1) ei 3 hw7 1) (by omega) (by omega) ?_
        intro a8 cap8 w8 hg8 hM8 hz8
        have hRe : ¬ R ed wr.heap.size := fun hk => by have := (HL.out.lo _ _ hk).2.1; omega
        have j0b := hM8.at j0 hRe
        have j2b := hM8.at j2 hRe
        have hl8 : MpAt w8 (w.heap.size + 2) iV hdRV mm := HL7.out.map.mod hM8 (fun hk => (HL7.out.lo _ _ hk).2.2 rfl)
        obtain ⟨W9, hu9, hm9, hM9, hz9⟩ := MapAt.upz hl8 keyInt Tryz.underlying251 ed ⟨a8, hn + 1, cap8⟩
        simp only [iV, hdRV] at hu9
        try go_wp2_with fail
        refine hK.out _ _ ⟨j0b, j2b⟩ (fun hHeld => ?_)
        clear hK K
        try simp only [Act.put, List.setIfInBounds_toArray]
        refine wpAnyH_ready (rs := [11]) (by kernel_rfl) (by simp) ?_
        refine AllReadyH.cons (o := _) rfl (fun K hK => ?_) AllReadyH.nil
        go_simp
        have hP := LeadsAt.put HL7.out ed ei (by have := HMw.out.size; omega) (by rw [← hh]; exact hg8) hM8 (by rw [← hh]; exact hm9) hM9
        have hfe : (fun x => if x = ed then leadsOf (l.take i) ed ++ [ei] else leadsOf (l.take i) x) = leadsOf (l.take (i + 1)) := by
          funext x
          rw [HT.out, leadsOf_snoc]
          by_cases e : x = ed
          · subst e; rfl
          · rw [if_neg e, if_neg e]
        rw [hfe] at hP
        have HP9 := Lib.hid hP
        have HC9 := Lib.hid (((HC6.out.mod (F := none') (Mod.of_below hB7) id).mod hM8 (fun hk => by have := (HL.out.lo _ _ hk).1; omega)).mod hM9 (by omega))
        have HM9 := Lib.hid ((((((HMw.out.trans (Mod.of_below hB5)).trans (HM6.out.mono (fun _ _ e => Or.inl e))).trans (Mod.of_below hB7)).trans' hM8 (fun k hk hr => by have := (HL.out.lo _ _ hr).1; omega)).trans (hM9.mono (fun _ _ e => Or.inr e))))
        have j0c := hM9.at j0b (by omega)
        have j2c := hM9.at j2b (by omega)
        clear hP hfe hm9 hM9 hM8 hg8 hl8
        try go_wp2_with fail
        refine hK.out _ _ ⟨j0c, j2c⟩ (fun hHeld => ?_)
        clear hK K
        try simp only [Act.put, List.setIfInBounds_toArray, List.set_cons_zero, List.set_cons_succ]
        refine wpAnyH_done (by kernel_rfl) ?_ _
        go_wp2_with fail
        go_roundg (l.length - (i + 1))
        case measure => exact hms
        case rel => exact ⟨i + 1, _, _, _, rfl, hi1, (by rw [hwr1.out]), HC9.out, HCn.out, HP9.out, HM9.out⟩
    · obtain rfl : i = l.length := by omega
      obtain ⟨WB, hWB⟩ : ∃ WB, WB = wr := ⟨_, rfl⟩
      subst hWB
      have HLB := Lib.hid (show LeadsAt WB (w.heap.size + 2) W4.heap.size mm R (leadsOf l) by have := HL.out; rwa [List.take_length] at this)
      have HNB := Lib.hid (show ∀ j, val0 C j = (namesN l j : Nat) by have := HCv.out; rwa [List.take_length] at this)
      have HMB := Lib.hid (HM4.out.mod HMw.out (by omega))
      have HBB := Lib.hid (HB4.out.trans (HMw.out.below_at (by omega) (fun k hk e => by omega)))
      have hzB : W4.heap.size ≤ WB.heap.size := HMw.out.size
      have HU := Lib.hid (show (uniq (l.map (·.2))).Nodup ∧ (∀ d, ∀ i ∈ leadsOf l d, i ∈ uniq (l.map (·.2))) from ⟨uniq_nodup _, fun d i hi => by
        obtain ⟨e, he, -, rfl⟩ := mem_leadsOf.1 hi
        exact (uniq_mem _ _).2 (List.mem_map.2 ⟨e, he, rfl⟩)⟩)
      have HUl := Lib.hid (show unmet (uniq (l.map (·.2))) [(1, 1)] + 1 ≤ 100001 by
        have h1 := uniq_len (l.map (·.2))
        rw [List.length_map] at h1
        have h2 : unmet (uniq (l.map (·.2))) [(1, 1)] ≤ (uniq (l.map (·.2))).length := List.length_filter_le _ _
        have := Hll.out
        omega)
      obtain ⟨U, hU⟩ : ∃ U, U = uniq (l.map (·.2)) := ⟨_, rfl⟩
      rw [← hU] at HU HUl
      clear hU HL HCv HMw HM4 HB4 HE HN4 HL4
      go_wp2_with fail
      obtain ⟨WC, hWC⟩ : ∃ WC, WC = WB.alloc (.cells #[.int .i64 1] 3) := ⟨_, rfl⟩
      rw [← hWC]
      have hBC : Below WB.heap.size WB WC := by rw [hWC]; exact belC (Below.refl _ _)
      have hgC : GRowAt WC (From WB.heap.size) 1 1 1 (some ⟨WB.heap.size, 0, none⟩) (nums [1]) := ⟨by omega, by omega, rfl, fun _ => ⟨WB.heap.size, 0, rfl, Nat.le_refl _, by rw [hWC]; simp, fun j hj => by
        obtain rfl : j = 0 := by omega
        rw [hWC]; go_simp; rfl, fun j hj => by
        obtain rfl : j = 0 := by omega
        rw [hWC]; exact ⟨by go_simp, by go_simp⟩⟩⟩
      have HMC := Lib.hid (HMB.out.mod (F := none') (Mod.of_below hBC) id)
      have HBC := Lib.hid (Mod.of_below (F := (· = w.heap.size)) hBC)
      have HGC := Lib.hid hgC
      clear hBC hgC hWC
      go_loopg [7] (unmet U [(1, 1)] + 1) (fun g s7 wr => Lp2 WB w.heap.size l U g s7 wr)
      case atStart => exact ⟨[(1, 1)], [1], _, 1, 1, rfl, rfl, HUl.out, rfl, HMC.out, Bfs.start l, HGC.out, HBC.out⟩
      case round =>
        clear HMC HGC HBC
        obtain ⟨M, todo, ao, cq, tl, hg, htl, hg1, rfl, hM, hbf, hG, hMd⟩ := hrel
        have HM := Lib.hid hM
        have HG := Lib.hid hG
        have HMd := Lib.hid hMd
        have HBf := Lib.hid hbf
        clear hM hG hMd hbf
        cases todo with
        | nil =>
          obtain rfl : tl = 0 := htl
          go_wp2_with fail
          go_ret2
          refine ⟨w.heap.size, w.heap.size + 1, M, C, rfl, HM.out, HC.out.mod HMd.out (by omega), fun i => ⟨fun h => (HBf.out.fin i).1 (h.perm (fun e he => HP.out.mem_iff.2 he)), fun h => ((HBf.out.fin i).2 h).perm (fun e he => HP.out.mem_iff.1 he)⟩, fun i => ?_, HBB.out.trans (HMd.out.below_at (by have := HBB.out.size; omega) (fun k hk e => by omega))⟩
          rw [HNB.out i]
          unfold namesN
          rw [(HP.out.filter _).length_eq]
        | cons d r =>
          have htl0 : (0 : Int) < tl := by rw [htl, List.length_cons]; omega
          have htl1 : 0 < tl := by omega
          have htc := HG.out.le
          obtain ⟨qb, qo, rfl, hqS, hql, hqc, -⟩ := HG.out.at' (by omega)
          have q0 : wr.cell? ⟨qb, qo, none⟩ = some (.int .i64 d) := by
            have := hqc 0 (by omega)
            rwa [Nat.add_zero] at this
          have hLw := HLB.out.mod HMd.out (by omega) (fun x k hk e => by have := (HLB.out.lo x k hk).1; omega)
          have hkd := lookH hLw.map keyInt Tryz.underlying251 zeroLs d
          have hrw := hLw.row d
          have hlw := hLw.len d
          obtain ⟨⟨ha, hn, hcp⟩, hh⟩ : ∃ x, x = (get mm d).getD hdR0 := ⟨_, rfl⟩
          rw [← hh] at hkd hrw hlw
          simp only [hdRV] at hkd
          simp only at hrw hlw
          have HRW := Lib.hid hrw
          have HOp := Lib.hid HBf.out.open
          have Hg := Lib.hid hg
          have Htl := Lib.hid htl
          have HH := Lib.hid hh
          have HMD := Lib.hid HMd.out
          have HMo := Lib.hid HM.out
          have HGo := Lib.hid HG.out
          clear hLw hrw hqc htl hg hh
          go_wp2_with fail
          go_loopg [7, 53] (leadsOf l d).length (fun g s7 s53 wr => Lp3 WB w.heap.size l U (unmet U M + (r.length + 1)) d g s7 s53 wr)
          case atStart => exact ⟨0, M, r, _, cq, tl, rfl, Nat.zero_le _, rfl, rfl, Htl.out, rfl, HMo.out, HOp.out, fun i hi => by simp at hi, HGo.out, HMD.out⟩
          case round =>
            clear q0 hkd HRW HMo HGo HMD HOp HM HG HMd HBf
            obtain ⟨j, M2, r2, ao2, cq2, tl2, rfl, hj2, rfl, hG2, htl2, rfl, hM2, hb2, hs2, hr2, hMd2⟩ := hrel
            have hrow := (HLB.out.mod hMd2 (by omega) (fun x k hk e => by have := (HLB.out.lo x k hk).1; omega)).row d
            rw [← HH.out] at hrow
            simp only at hrow
            have HM2 := Lib.hid hM2
            have HB2 := Lib.hid hb2
            have HS2 := Lib.hid hs2
            have HR2 := Lib.hid hr2
            have HMd2 := Lib.hid hMd2
            have HG2 := Lib.hid hG2
            have HTL2 := Lib.hid htl2
            have HROW := Lib.hid hrow
            clear hM2 hb2 hs2 hr2 hMd2 hG2 htl2 hrow
            by_cases hjl : j < hn
            · have hjl0 : (0 : Int) ≤ j ∧ (j : Int) < hn := by omega
              have hjl1 : j < (leadsOf l d).length := by omega
              have hle2 := HROW.out.le
              obtain ⟨eb, eo, rfl, hRd, hel, hec, -⟩ := HROW.out.at' (by omega)
              obtain ⟨x, hx⟩ : ∃ x, x = (leadsOf l d)[j] := ⟨_, rfl⟩
              have c0 : wr.cell? ⟨eb, eo + j, none⟩ = some (.int .i64 x) := by
                have := hec j (by omega)
                rw [this, hx]
                unfold nums
                rw [List.getElem?_map, List.getElem?_eq_getElem hjl1]
                rfl
              have hxm : x ∈ leadsOf l d := by rw [hx]; exact List.getElem_mem hjl1
              have htk : (leadsOf l d).take (j + 1) = (leadsOf l d).take j ++ [x] := by rw [List.take_succ_eq_append_getElem hjl1, hx]
              have hms : (leadsOf l d).length - (j + 1) < (leadsOf l d).length - j := by omega
              have hj1 : j + 1 ≤ (leadsOf l d).length := hjl1
              have hll2 := leadsOf_len l d
              have hwr1 := Lib.hid (show wrap64 ((j : Int) + 1) = ((j + 1 : Nat) : Int) by unfold wrap64; have := Hll.out; omega)
              have hkm := look0 HM2.out keyInt Tryz.underlying195 zeroI x
              by_cases hv : val0 M2 x = 0
              · have hv2 : (val0 M2 x == 0) = true := by simpa using hv
                obtain ⟨W6, hu6, hm6, hM6, hz6⟩ := MapAt.upz HM2.out keyInt Tryz.underlying195 x 1
                simp only [iV] at hu6
                have hmet := HB2.out.1.met HB2.out.2 hxm
                have hun := unmet_set HU.out.1 (HU.out.2 d x hxm) hv
                have hr6 := HR2.out.mod hM6 (fun k hk _ e => by have hk : WB.heap.size ≤ k := hk; omega)
                have htl3 : tl2 ≤ 100001 := by
                  have h1 := HTL2.out; have h2 := HG2.out; have h3 := Hg.out; rw [List.length_cons] at h3; omega
                have HM6 := Lib.hid hM6
                have Hm6 := Lib.hid hm6
                have HMet := Lib.hid hmet
                have HUn := Lib.hid hun
                have HR6 := Lib.hid hr6
                have HTK := Lib.hid htk
                have HXM := Lib.hid hxm
                generalize val0 M2 x = vv at *
                have HZ6 := Lib.hid hz6
                clear hM6 hm6 hmet hun hr6 htk hxm hec hv hx hz6
                go_wp2_with (at_builtin; refine wpList_append_g (by rfl) (.tmp 63) (.tmp 65) 152 152 (by rfl) 3 i0 _ 8 Tryz.underlying152 hi hy0 hy1 hy2 (by rfl) (by rfl) (HR6.out.mod (F := none') (by exact modC (Mod.refl _ _)) (fun _ _ _ => id)) _ 1 [.int .i64 x] (by rfl) (src_int _ _ Tryz.underlying152 W6.heap.size x 3 (alloc_new _ _) _) (by omega) (by omega) ?_; intro a8 cap8 w8 hg8 hM8 hz8)
                have hBA : Below W6.heap.size W6 (W6.alloc (.cells #[.int .i64 x] 3)) := by exact belC (Below.refl _ _)
                have hsB : WB.heap.size ≤ W6.heap.size := by have h1 := HMd2.out.size; have h2 := HM6.out.size; omega
                have hg9 : GRowAt w8 (From WB.heap.size) 1 (tl2 + 1) cap8 a8 (nums (d :: (r2 ++ [x]))) := by
                  have := hg8.sub (T := From WB.heap.size) (fun k _ hk => by
                    rcases hk with hk | hk
                    · exact hk
                    · show WB.heap.size ≤ k; rw [hk]; simp only [World.size_alloc]; omega)
                  rwa [show nums (d :: r2) ++ [.int .i64 x] = nums (d :: (r2 ++ [x])) by simp [nums]] at this
                have hMd8 : Mod (· = w.heap.size) WB w8 := ((HMd2.out.trans HM6.out).trans (Mod.of_below hBA)).trans' hM8 (fun k hk hr => by have hr : WB.heap.size ≤ k := hr; omega)
                have hm8 := (Hm6.out.mod (F := none') (Mod.of_below hBA) id).mod hM8 (fun hr => by have hr : WB.heap.size ≤ w.heap.size := hr; omega)
                have hG8 : unmet U M + (r.length + 1) = unmet U (Esch.set M2 x 1) + (r2 ++ [x]).length + 1 := by
                  have h1 := HG2.out; have h2 := HUn.out; rw [List.length_append, List.length_singleton]; omega
                have htl8 : tl2 + 1 = (r2 ++ [x]).length + 1 := by have h1 := HTL2.out; rw [List.length_append, List.length_singleton]; omega
                have hs8 : ∀ i ∈ (leadsOf l d).take (j + 1), val0 (Esch.set M2 x 1) i ≠ 0 := fun i hi => by
                  rw [val0_set]
                  split
                  · decide
                  · rename_i hne
                    rw [HTK.out] at hi
                    rcases List.mem_append.1 hi with h1 | h1
                    · exact HS2.out i h1
                    · rw [List.mem_singleton] at h1; exact absurd h1.symm hne
                clear hg8 hM8 hBA hsB
                go_roundg ((leadsOf l d).length - (j + 1))
                case measure => exact hms
                case rel => exact (show Lp3 WB w.heap.size l U (unmet U M + (r.length + 1)) d _ _ _ _ from ⟨j + 1, Esch.set M2 x 1, r2 ++ [x], a8, cap8, tl2 + 1, rfl, hj1, by rw [hwr1.out], hG8, htl8, rfl, hm8, HMet.out, hs8, hg9, hMd8⟩)
              · have hv2 : (val0 M2 x == 0) = false := by simpa using hv
                have HV := Lib.hid hv
                have HTK := Lib.hid htk
                clear hv hxm htk hec hx
                generalize hvv : val0 M2 x = vv at hkm hv2
                have HVV := Lib.hid hvv
                clear hvv
                go_wp2_with fail
                go_roundg ((leadsOf l d).length - (j + 1))
                case measure => exact hms
                case rel => exact ⟨j + 1, M2, r2, _, cq2, tl2, rfl, hj1, by rw [hwr1.out], HG2.out, HTL2.out, rfl, HM2.out, HB2.out, fun i hi => by
                  rw [HTK.out] at hi
                  rcases List.mem_append.1 hi with h1 | h1
                  · exact HS2.out i h1
                  · rw [List.mem_singleton] at h1; subst h1; exact HV.out, HR2.out, HMd2.out⟩
            · obtain rfl : j = hn := by omega
              have hle2 := HR2.out.le
              have ht2 := HTL2.out
              obtain ⟨qb2, qo2, rfl, hqS2, hql2, -, -⟩ := HR2.out.at' (by omega)
              have hc2 : tl2 ≤ cq2 := hle2
              have htt : 0 < tl2 := by omega
              have hm2 := HR2.out.max
              have hRt := HR2.out
              rw [ht2] at hRt
              have hRt := hRt.tail
              have ht3 : tl2 - 1 = r2.length := by omega
              rw [← ht3] at hRt
              have HRt := Lib.hid hRt
              have HCl := Lib.hid (HB2.out.1.close (fun i hi => HS2.out i (by rw [List.take_of_length_le (by omega)]; exact hi)))
              have hms : unmet U M2 + r2.length < gk := by have h1 := Hg.out; have h2 := HG2.out; rw [List.length_cons] at h1; omega
              have hms2 : unmet U M2 + r2.length ≤ 100001 := by omega
              have HT3 := Lib.hid ht3
              clear ht2 hRt ht3
              by_cases hq1 : cq2 = 1
              · subst hq1
                obtain rfl : tl2 = 1 := by omega
                rw [if_pos rfl] at HRt
                go_wp2_with fail
                go_roundg (unmet U M2 + r2.length)
                case measure => exact hms
                case rel => exact ⟨M2, r2, _, _, _, rfl, HT3.out, hms2, rfl, HM2.out, HCl.out, HRt.out, HMd2.out⟩
              · rw [if_neg hq1] at HRt
                go_wp2_with fail
                go_roundg (unmet U M2 + r2.length)
                case measure => exact hms
                case rel => exact ⟨M2, r2, _, _, _, rfl, HT3.out, hms2, rfl, HM2.out, HCl.out, HRt.out, HMd2.out⟩
end Go.Proofs.YtmnkackkeppheaaGreat
