import Derived.Test.YtakbalmbkokklaaGreatPkRIno
import Derived.Test.YtakbalmbkokklaaGreatRName
import Derived.Test.YtakbalmbkokklaaGreatPkDir
/- the document's names: at, Find, List, ahead -/
namespace Go.Proofs.YtakbalmbkokklaaGreat
open Go.RowKit Esch Go.Shelf

abbrev entCells (l : List Ent) : List Value := l.flatMap entC
theorem entCells_one (l : List Ent) : ∀ u ∈ entCells l, u.oneCell' = true := by
  intro u hu
  obtain ⟨p, -, hp⟩ := List.mem_flatMap.1 hu
  simp only [entC, List.mem_cons, List.not_mem_nil, or_false] at hp
  rcases hp with rfl | rfl | rfl <;> rfl
theorem entCells_take (m : List Ent) (k : Nat) : (entCells m).take (k * 3) = entCells (m.take k) := by
  induction m generalizing k with
  | nil => simp
  | cons a m ih =>
    cases k with
    | zero => simp
    | succ k =>
      have h1 : entCells (a :: m) = entC a ++ entCells m := rfl
      have h2 : entCells ((a :: m).take (k + 1)) = entC a ++ entCells (m.take k) := rfl
      rw [h1, h2, List.take_append, show (entC a).length = 3 from rfl, List.take_of_length_le (by show 3 ≤ _; omega), show (k + 1) * 3 - 3 = k * 3 by omega, ih]
theorem entCells_app (a b : List Ent) : entCells (a ++ b) = entCells a ++ entCells b := List.flatMap_append
theorem entCells_drop (m : List Ent) (k : Nat) : (entCells m).drop (k * 3) = entCells (m.drop k) := by
  have h1 := List.take_append_drop (k * 3) (entCells m)
  have h2 : entCells m = entCells (m.take k) ++ entCells (m.drop k) := by rw [← entCells_app, List.take_append_drop]
  rw [entCells_take] at h1
  rw [h2] at h1
  rw [← h2] at h1
  exact List.append_cancel_left (h1.trans h2)
/-- the document's names in memory: all blocks in T -/
structure RNamAt (w : World) (b : Nat) (T : Nat → Prop) (L : List Ent) : Prop where
  tb : T b
  lt : ∀ k, T k → k < w.heap.size
  ex : ∃ ao cap, w.cell? ⟨b, 0, none⟩ = some (.slice ao L.length cap) ∧ w.frozen? ⟨b, 0, none⟩ = false ∧ GRowAt w (fun k => T k ∧ k ≠ b) 3 L.length cap ao (entCells L)
theorem RNamAt.mod {w w' : World} {b : Nat} {T F : Nat → Prop} {L : List Ent} (h : RNamAt w b T L) (hM : Mod F w w') (hF : ∀ k, T k → ¬ F k) : RNamAt w' b T L := by
  obtain ⟨tb, lt, ao, cap, c0, f0, hg⟩ := h
  have hl := cell_lt c0
  exact ⟨tb, fun k hk => Nat.lt_of_lt_of_le (lt k hk) hM.size, ao, cap, hM.at c0 (hF b tb), (hM.frozen (p := ⟨b, 0, none⟩) hl (hF b tb)).trans f0, hg.mod hM (fun k hk _ => hF k hk.1)⟩
theorem RNamAt.below' {w w' : World} {b : Nat} {T : Nat → Prop} {L : List Ent} (h : RNamAt w b T L) (hB : Below w.heap.size w w') : RNamAt w' b T L := h.mod (F := none') (Mod.of_below hB) fun _ _ => id
theorem RNamAt.wide {w : World} {b : Nat} {T U : Nat → Prop} {L : List Ent} (h : RNamAt w b T L) (hU : ∀ k, T k → U k) (hl : ∀ k, U k → k < w.heap.size) : RNamAt w b U L := by
  obtain ⟨tb, lt, ao, cap, c0, f0, hg⟩ := h
  exact ⟨hU b tb, hl, ao, cap, c0, f0, hg.sub (fun k _ hk => ⟨hU k hk.1, hk.2⟩)⟩
theorem RNamAt.grow {w w1 : World} {b : Nat} {T : Nat → Prop} {L : List Ent} (h : RNamAt w b T L) : RNamAt w b (growS T w1 w) L := h.wide (fun _ hk => Or.inl hk) (fun k hk => hk.elim (h.lt k) (fun h => h.2))
/-- a new row -/
theorem RNamAt.setRow {w w8 : World} {b n cap' : Nat} {T : Nat → Prop} {ao' : Option Addr} {L : List Ent} (h : RNamAt w b T L) (hB : Below w.heap.size w w8) {m' : List Ent} (hg : GRowAt w8 (From w.heap.size) 3 n cap' ao' (entCells m')) (hn : n = m'.length) :
    RNamAt (w8.setCell ⟨b, 0, none⟩ (.slice ao' n cap')) b (growS T w (w8.setCell ⟨b, 0, none⟩ (.slice ao' n cap'))) m' ∧ Mod T w (w8.setCell ⟨b, 0, none⟩ (.slice ao' n cap')) := by
  obtain ⟨tb, lt, ao, cap, c0, f0, hr⟩ := h
  have hl := lt b tb
  have hz := hB.size
  have hl8 : b < w8.heap.size := by omega
  have d0 := below_at hB c0 hl
  have g0 := (hB.frozen (p := ⟨b, 0, none⟩) hl).trans f0
  subst hn
  refine ⟨⟨Or.inl tb, fun k hk => ?_, ao', cap', by go_simp, by go_simp, ?_⟩, (Mod.of_below hB).setCellAt (fun _ => tb) _⟩
  · rw [World.size_setCell]
    rcases hk with hk | hk
    · have := lt k hk; omega
    · rw [World.size_setCell] at hk; exact hk.2
  · have hM : Mod (· = b) w8 (w8.setCell ⟨b, 0, none⟩ (.slice ao' m'.length cap')) := (Mod.refl (· = b) w8).setCellAt (fun _ => rfl) _
    refine (hg.mod hM (fun k hk _ e => ?_)).sub (fun k hk hf => ⟨Or.inr ⟨hf, hk⟩, fun e => ?_⟩)
    · have hk : w.heap.size ≤ k := hk
      omega
    · have hf : w.heap.size ≤ k := hf
      omega
/-- the cells of an entry in the row -/
theorem entAt {w : World} {S : Nat → Prop} {pre post : List Ent} {x : Ent} {n cap : Nat} {ao : Option Addr} (h : GRowAt w S 3 n cap ao (entCells (pre ++ x :: post))) : ∃ rb ro, ao = some ⟨rb, ro, none⟩ ∧ S rb ∧ rb < w.heap.size ∧
    w.cell? ⟨rb, ro + pre.length * 3, none⟩ = some (.int .i64 x.1.1) ∧ w.cell? ⟨rb, ro + pre.length * 3 + 1, none⟩ = some (.string (bs x.1.2)) ∧ w.cell? ⟨rb, ro + pre.length * 3 + 2, none⟩ = some (.int .i64 x.2) := by
  have hx := h.xsLen
  rw [flat_ent, List.length_append, List.length_cons] at hx
  have hle := h.le
  obtain ⟨rb, ro, e, hb, hl, h1, h2⟩ := h.at' (by omega)
  have hc : ∀ j, j < 3 → w.cell? ⟨rb, ro + pre.length * 3 + j, none⟩ = (entC x)[j]? := fun j hj => by
    have := h1 (pre.length * 3 + j) (by omega)
    rw [← Nat.add_assoc] at this
    rw [this, entCells_app, List.getElem?_append_right (by rw [flat_ent]; omega), flat_ent, Nat.add_sub_cancel_left]
    show (entC x ++ entCells post)[j]? = _
    rw [List.getElem?_append_left (by show j < 3; exact hj)]
  exact ⟨rb, ro, e, hb, hl, hc 0 (by omega), hc 1 (by omega), hc 2 (by omega)⟩
/-- the list, cut at a place -/
theorem list_cut {α : Type} {l : List α} {k : Nat} (h : k < l.length) : l = l.take k ++ l[k] :: l.drop (k + 1) := by
  have h1 := List.take_append_drop k l
  rw [List.drop_eq_getElem_cons h] at h1
  exact h1.symm
def AtR (L : List Ent) (k : DK) (r : Int) : Prop := (r = -1 ∧ ∀ e ∈ L, e.1 ≠ k) ∨ ∃ pre post i, L = pre ++ (k, i) :: post ∧ (∀ e ∈ pre, e.1 ≠ k) ∧ r = (pre.length : Nat)
def RAtRel (L : List Ent) (k : DK) (w : World) (g : Nat) (s7 : Value) (wr : World) : Prop := ∃ i : Nat, g = L.length - i ∧ i ≤ L.length ∧ s7 = .int .i64 i ∧ (∀ e ∈ L.take i, e.1 ≠ k) ∧ wr = w
set_option maxRecDepth 100000 in
set_option maxHeartbeats 4000000 in
theorem rAt_any (w : World) (b : Nat) (T : Nat → Prop) (L : List Ent) (h : RNamAt w b T L) (hl : L.length ≤ 1000000) (d : Int) (n : Nm) :
    Calls Tryz.prog 131 #[.pointer (some ⟨b, 0, none⟩), .int .i64 d, .string (bs n)] w fun e w' => (∃ r, e = .returned (.int .i64 r) ∧ AtR L (d, n) r) ∧ w' = w := by
  obtain ⟨tb, lt, ao, cap, c0, f0, hg⟩ := h
  have HG := Lib.hid hg
  clear hg f0
  go_enter Tryz.func131, Tryz.ntmps131
  go_wp2_with fail
  go_loopg [7] L.length (fun g s7 wr => RAtRel L (d, n) w g s7 wr)
  case atStart => exact ⟨0, rfl, Nat.zero_le _, rfl, fun p hp => absurd hp (by simp), rfl⟩
  case round =>
    obtain ⟨i, rfl, hil, rfl, hno, rfl⟩ := hrel
    have HNO := Lib.hid hno
    clear hno
    by_cases hlt : i < L.length
    · have hsp := list_cut hlt
      have hpl : (L.take i).length = i := by rw [List.length_take]; omega
      have hg2 := HG.out
      rw [show entCells L = entCells (L.take i ++ L[i] :: L.drop (i + 1)) by rw [← hsp]] at hg2
      obtain ⟨rb, ro, rfl, hS, hrl, d0, d1, -⟩ := entAt hg2
      rw [hpl] at d0 d1
      have hi2 : (0 : Int) ≤ i ∧ (i : Int) < L.length := by omega
      have hms : L.length - (i + 1) < L.length - i := by omega
      have hwr := Lib.hid (show wrap64 ((i : Int) + 1) = ((i + 1 : Nat) : Int) by unfold wrap64; omega)
      obtain ⟨x, hx⟩ : ∃ x, x = L[i] := ⟨_, rfl⟩
      rw [← hx] at d0 d1 hsp
      have HE := Lib.hid hx
      have HSP := Lib.hid hsp
      have HPL := Lib.hid hpl
      have Hlt := Lib.hid hlt
      have hbl := cell_lt c0
      clear hg2 hsp hpl hS hx
      obtain ⟨⟨xd, xn⟩, xi⟩ := x
      simp only at d0 d1
      by_cases hd : xd = d
      · subst hd
        by_cases hn : xn = n
        · subst hn
          have he : ((bs xn).toList == xn) = true := by rw [strEq]; exact decide_eq_true rfl
          have he2 : ((bs xn).toList == (bs xn).toList) = true := beq_self_eq_true _
          have hR : AtR L (xd, xn) i := Or.inr ⟨L.take i, L.drop (i + 1), xi, HSP.out, HNO.out, by rw [HPL.out]⟩
          have HR := Lib.hid hR
          clear hR hil
          go_wp2_with fail
          go_ret
          exact ⟨⟨_, rfl, HR.out⟩, rfl⟩
        · have he2 : ((bs xn).toList == (bs n).toList) = false := by rw [toList_bs, toList_bs]; simpa using hn
          have HNE := Lib.hid (show ((xd, xn) : DK) ≠ (xd, n) from fun e => hn (congrArg Prod.snd e))
          clear hn hil
          go_wp2_with fail
          go_roundg (L.length - (i + 1))
          case measure => exact hms
          case rel => exact ⟨i + 1, rfl, Hlt.out, by first | rfl | rw [hwr.out], by
            intro p hp
            rw [List.take_succ_eq_append_getElem Hlt.out] at hp
            rcases List.mem_append.1 hp with hp | hp
            · exact HNO.out p hp
            · rw [List.mem_singleton] at hp
              rw [hp, ← HE.out]
              exact HNE.out, rfl⟩
      · have hd2 : (xd == d) = false := by simpa using hd
        have HNE := Lib.hid (show ((xd, xn) : DK) ≠ (d, n) from fun e => hd (congrArg Prod.fst e))
        clear hd hil
        go_wp2_with fail
        go_roundg (L.length - (i + 1))
        case measure => exact hms
        case rel => exact ⟨i + 1, rfl, Hlt.out, by first | rfl | rw [hwr.out], by
          intro p hp
          rw [List.take_succ_eq_append_getElem Hlt.out] at hp
          rcases List.mem_append.1 hp with hp | hp
          · exact HNO.out p hp
          · rw [List.mem_singleton] at hp
            rw [hp, ← HE.out]
            exact HNE.out, rfl⟩
    · obtain rfl : i = L.length := by omega
      rw [List.take_length] at HNO
      have HR := Lib.hid (show AtR L (d, n) (-1) from Or.inl ⟨rfl, HNO.out⟩)
      clear hlt hil
      go_wp2_with fail
      go_ret
      exact ⟨⟨_, rfl, HR.out⟩, rfl⟩
theorem AtR.got {L : List Ent} {k : DK} {r : Int} (h : AtR L k r) : (r = -1 ∧ get L k = none) ∨ ∃ pre post i, L = pre ++ (k, i) :: post ∧ r = (pre.length : Nat) ∧ get L k = some i := by
  rcases h with ⟨h1, h2⟩ | ⟨pre, post, i, hs, hp, hr⟩
  · exact Or.inl ⟨h1, get_none.2 h2⟩
  · refine Or.inr ⟨pre, post, i, hs, hr, ?_⟩
    rw [hs]
    clear hs hr
    induction pre with
    | nil => simp [Esch.get]
    | cons a pre ih =>
      have h1 := hp a (by simp)
      have h2 := ih fun e he => hp e (by simp [he])
      obtain ⟨ak, av⟩ := a
      simp only at h1
      show Esch.get ((ak, av) :: (pre ++ (k, i) :: post)) k = _
      unfold Esch.get
      rw [if_neg h1]
      exact h2
set_option maxRecDepth 100000 in
set_option maxHeartbeats 4000000 in
theorem rNFind_any (w : World) (b : Nat) (T : Nat → Prop) (L : List Ent) (h : RNamAt w b T L) (hl : L.length ≤ 1000000) (d : Int) (n : Nm) :
    Calls Tryz.prog 128 #[.pointer (some ⟨b, 0, none⟩), .int .i64 d, .string (bs n)] w fun e w' => e = .returned (.tuple #[.int .i64 ((get L (d, n)).getD 0), .bool (get L (d, n)).isSome]) ∧ w' = w := by
  have hat := rAt_any w b T L h hl d n
  obtain ⟨tb, lt, ao, cap, c0, f0, hg⟩ := h
  have HG := Lib.hid hg
  have hbl := cell_lt c0
  obtain ⟨gv, hgv⟩ : ∃ gv, gv = get L (d, n) := ⟨_, rfl⟩
  rw [← hgv]
  have HGV := Lib.hid hgv
  clear hg f0 hgv
  go_enter Tryz.func128, Tryz.ntmps128
  go_wp2_with fail
  refine hat.mono ?_
  clear hat
  rintro e w1 ⟨⟨r, rfl, hr⟩, rfl⟩
  rcases hr.got with ⟨rfl, hgn⟩ | ⟨pre, post, i, hs, rfl, hgs⟩
  · have hv := HGV.out.trans hgn
    subst hv
    clear hr hgn HGV
    go_wp2_with fail
    go_ret2
    exact ⟨rfl, rfl⟩
  · have hv := HGV.out.trans hgs
    subst hv
    have hg2 := HG.out
    rw [show entCells L = entCells (pre ++ ((d, n), i) :: post) by rw [← hs]] at hg2
    obtain ⟨rb, ro, rfl, hS, hrl, -, -, d2⟩ := entAt hg2
    have hpl : pre.length < L.length := by rw [hs, List.length_append, List.length_cons]; omega
    have hil : (0 : Int) ≤ (pre.length : Nat) ∧ ((pre.length : Nat) : Int) < L.length := by omega
    have hnn : ¬ ((pre.length : Nat) : Int) < 0 := by omega
    simp only at d2
    clear hr hgs HGV hg2 hS hs hpl
    go_wp2_with fail
    go_ret2
    exact ⟨rfl, rfl⟩
end Go.Proofs.YtakbalmbkokklaaGreat
/- the document's names: List, Drop, ahead -/
namespace Go.Proofs.YtakbalmbkokklaaGreat
open Go.RowKit Esch Go.Shelf

def namesD' (L : List Ent) (d : Int) : List Nm := (L.filter (fun e => e.1.1 == d)).map (·.1.2)
theorem namesD'_snoc (L : List Ent) (e : Ent) (d : Int) : namesD' (L ++ [e]) d = if e.1.1 = d then namesD' L d ++ [e.1.2] else namesD' L d := by
  unfold namesD'
  rw [List.filter_append, List.map_append]
  by_cases h : e.1.1 = d
  · rw [if_pos h]; simp [h]
  · rw [if_neg h]; simp [h]
theorem namesD'_len (L : List Ent) (d : Int) : (namesD' L d).length ≤ L.length := by unfold namesD'; rw [List.length_map]; exact List.length_filter_le _ _
def RListPost (w : World) (L : List Ent) (d : Int) (e : Ending) (w' : World) : Prop := ∃ a c, e = .returned (.slice a (namesD' L d).length c) ∧ NmsAt (From w.heap.size) w' a (namesD' L d) ∧ Below w.heap.size w w'
def RListRel (L : List Ent) (d : Int) (w : World) (g : Nat) (s5 s6 : Value) (wr : World) : Prop := ∃ (i : Nat) (ao : Option Addr) (c : Nat), g = L.length - i ∧ i ≤ L.length ∧ s6 = .int .i64 i ∧ s5 = .slice ao (namesD' (L.take i) d).length c ∧ GRowAt wr (From w.heap.size) 1 (namesD' (L.take i) d).length c ao ((namesD' (L.take i) d).map strV) ∧ Below w.heap.size w wr
set_option maxRecDepth 100000 in
set_option maxHeartbeats 4000000 in
theorem rList_any (w : World) (b : Nat) (T : Nat → Prop) (L : List Ent) (h : RNamAt w b T L) (hl : L.length ≤ 100000) (d : Int) :
    Calls Tryz.prog 101 #[.pointer (some ⟨b, 0, none⟩), .int .i64 d] w (RListPost w L d) := by
  obtain ⟨tb, lt, ao, cap, c0, f0, hg⟩ := h
  have HG := Lib.hid hg
  have hbl0 := cell_lt c0
  obtain ⟨i0, hi0, hz0, hz1, hz2⟩ := info_parts Tryz.infoStr
  have Hl := Lib.hid hl
  clear hg f0
  go_enter Tryz.func101, Tryz.ntmps101
  go_wp2_with fail
  go_loopg [5, 6] L.length (fun g s5 s6 wr => RListRel L d w g s5 s6 wr)
  case atStart => exact ⟨0, none, 0, rfl, Nat.zero_le _, rfl, rfl, GRowAt.nil _ _ _ _, Below.refl _ _⟩
  case round =>
    obtain ⟨i, ao2, c2, rfl, hil, rfl, rfl, hG, hB⟩ := hrel
    have HGr := Lib.hid hG
    have HBr := Lib.hid hB
    clear hG hB
    have c0r := below_at HBr.out c0 hbl0
    by_cases hlt : i < L.length
    · have hsp := list_cut hlt
      have hpl : (L.take i).length = i := by rw [List.length_take]; omega
      have hg2 := HG.out
      rw [show entCells L = entCells (L.take i ++ L[i] :: L.drop (i + 1)) by rw [← hsp]] at hg2
      obtain ⟨rb, ro, rfl, hS, hrl, d0, d1, -⟩ := entAt hg2
      rw [hpl] at d0 d1
      have d0 := below_at HBr.out d0 hrl
      have d1 := below_at HBr.out d1 hrl
      have hi2 : (0 : Int) ≤ i ∧ (i : Int) < L.length := by omega
      have hms : L.length - (i + 1) < L.length - i := by omega
      have hwr := Lib.hid (show wrap64 ((i : Int) + 1) = ((i + 1 : Nat) : Int) by unfold wrap64; omega)
      have hns : L.take (i + 1) = L.take i ++ [L[i]] := List.take_succ_eq_append_getElem hlt
      have hsn := namesD'_snoc (L.take i) L[i] d
      rw [← hns] at hsn
      have hnl := namesD'_len (L.take i) d
      rw [hpl] at hnl
      have HNL := Lib.hid (show (namesD' (L.take i) d).length ≤ 100000 by omega)
      obtain ⟨x, hx⟩ : ∃ x, x = L[i] := ⟨_, rfl⟩
      rw [← hx] at d0 d1 hsn
      have HSN := Lib.hid hsn
      have Hlt := Lib.hid hlt
      have hbl := cell_lt c0r
      have hrl2 := cell_lt d0
      obtain ⟨⟨xd, xn⟩, xi⟩ := x
      simp only at d0 d1
      clear hg2 hsp hpl hS hx hns hsn hnl hil
      generalize namesD' (L.take i) d = ns at *
      by_cases hd : xd = d
      · subst hd
        have hsn2 : namesD' (L.take (i + 1)) xd = ns ++ [xn] := by rw [HSN.out, if_pos rfl]
        have HS2 := Lib.hid hsn2
        clear hsn2
        go_wp2_with (at_builtin; refine wpList_append_g (by rfl) (.tmp 26) (.tmp 35) 22 22 (by rfl) 9 i0 _ 16 Tryz.underlying22 hi0 hz0 hz1 hz2 (by rfl) (by rfl) (HGr.out.mod (F := none') (by exact modC (Mod.refl _ _)) (fun _ _ _ => id)) _ 1 [strV xn] (by rfl) (src_str _ _ Tryz.underlying22 wr.heap.size xn 9 (heap_alloc_new _ _) _) (by have := HNL.out; omega) (by have := HNL.out; omega) ?_; intro a6 cap6 w6 hg6 hM6 hz6)
        have hB6 : Below w.heap.size w w6 := HBr.out.trans (((Below.refl _ wr).alloc (Nat.le_refl _) _).mono HBr.out.size |>.trans (hM6.below_at (by have := HBr.out.size; simp only [World.size_alloc]; omega) (fun k hk e => by have e : w.heap.size ≤ k := e; omega)))
        have hg7 : GRowAt w6 (From w.heap.size) 1 (ns ++ [xn]).length cap6 a6 ((ns ++ [xn]).map strV) := by
          rw [List.map_append, List.length_append]
          exact hg6.sub (fun k _ hk => by
            rcases hk with hk | hk
            · exact hk
            · show w.heap.size ≤ k; rw [hk]; simp only [World.size_alloc]; have := HBr.out.size; omega)
        rw [show ns.length + 1 = (ns ++ [xn]).length by simp]
        rw [← HS2.out] at hg7 ⊢
        have HG6 := Lib.hid hg7
        have HB6 := Lib.hid hB6
        clear hg6 hM6 hz6 hg7 hB6
        go_wp2_with fail
        go_roundg (L.length - (i + 1))
        case measure => exact hms
        case rel => exact ⟨i + 1, a6, cap6, rfl, Hlt.out, by first | rfl | rw [hwr.out], rfl, HG6.out, HB6.out⟩
      · have hd2 : (xd == d) = false := by simpa using hd
        have hsn2 : namesD' (L.take (i + 1)) d = ns := by rw [HSN.out, if_neg hd]
        have HS2 := Lib.hid hsn2
        clear hsn2 hd
        go_wp2_with fail
        go_roundg (L.length - (i + 1))
        case measure => exact hms
        case rel => exact ⟨i + 1, ao2, c2, rfl, Hlt.out, by first | rfl | rw [hwr.out], by rw [HS2.out], by rw [HS2.out]; exact HGr.out, HBr.out⟩
    · obtain rfl : i = L.length := by omega
      rw [List.take_length] at HGr ⊢
      clear hlt hil
      go_wp2_with fail
      go_ret
      exact ⟨ao2, c2, rfl, (grow_nms HGr.out).1, HBr.out⟩
theorem Tryz.infoRE : (Tryz.prog.info? 155).map (fun i => (i.zero, i.size, i.bytes)) = some (some (.agg #[.int .i64 0, .string ⟨#[]⟩, .int .i64 0]), 3, 32) := by kernel_rfl
def RNChg (w : World) (b : Nat) (T : Nat → Prop) (L' : List Ent) (v : Value) (e : Ending) (w' : World) : Prop := e = .returned v ∧ RNamAt w' b (growS T w w') L' ∧ Mod T w w'
set_option linter.unusedSimpArgs false in
set_option maxRecDepth 100000 in
set_option maxHeartbeats 8000000 in
theorem rNDrop_ok (w : World) (b : Nat) (T : Nat → Prop) (pre post : List Ent) (d i : Int) (nn : Nm) (h : RNamAt w b T (pre ++ ((d, nn), i) :: post)) (hl : (pre ++ ((d, nn), i) :: post).length ≤ 100000) (hpre : ∀ e ∈ pre, e.1 ≠ (d, nn)) :
    Calls Tryz.prog 108 #[.pointer (some ⟨b, 0, none⟩), .int .i64 d, .string (bs nn)] w (RNChg w b T (pre ++ post) (.int .i64 0)) := by
  have hat := rAt_any w b T _ h (by omega) d nn
  have H := Lib.hid h
  obtain ⟨tb, lt, ao, cap, c0, f0, hg⟩ := h
  have hlen : (pre ++ ((d, nn), i) :: post).length = pre.length + (post.length + 1) := by rw [List.length_append, List.length_cons]
  have htk : (pre ++ ((d, nn), i) :: post).take pre.length = pre := by simp
  have hdr : (pre ++ ((d, nn), i) :: post).drop (pre.length + 1) = post := by simp [List.drop_append]
  obtain ⟨rb, ro, rfl, hS, hrl, d0, d1, d2⟩ := entAt hg
  have hgot : ∀ r, AtR (pre ++ ((d, nn), i) :: post) (d, nn) r → r = (pre.length : Nat) := fun r hr => by
    rcases hr with ⟨-, h2⟩ | ⟨p2, q2, i2, hs, hp, hr⟩
    · exact absurd rfl (h2 ((d, nn), i) (by simp))
    · rw [hr]
      have : pre.length = p2.length := by
        rcases Nat.lt_trichotomy pre.length p2.length with hlt | he | hgt
        · exfalso
          have h3 : (p2 ++ ((d, nn), i2) :: q2)[pre.length]? = some ((d, nn), i) := by rw [← hs]; simp
          rw [List.getElem?_append_left hlt] at h3
          exact hp _ (List.mem_of_getElem? h3) rfl
        · exact he
        · exfalso
          have h3 : (pre ++ ((d, nn), i) :: post)[p2.length]? = some ((d, nn), i2) := by rw [hs]; simp
          rw [List.getElem?_append_left hgt] at h3
          exact hpre _ (List.mem_of_getElem? h3) rfl
      rw [this]
  obtain ⟨k, hk⟩ : ∃ k, k = pre.length := ⟨_, rfl⟩
  obtain ⟨n, hn⟩ : ∃ n, n = (pre ++ ((d, nn), i) :: post).length := ⟨_, rfl⟩
  rw [← hn] at hg c0 hlen hl
  rw [← hk] at hlen htk hdr hgot
  have hle := hg.le
  have hmx := hg.max
  have i0 : (0 : Int) ≤ k := by omega
  have i1 : (k : Int) < n := by omega
  have i2 : (n : Int) ≤ cap := by omega
  have i3 : (cap : Int) ≤ 9223372036854775807 := by omega
  have n0 : k ≤ cap := by omega
  have n1 : k + 1 ≤ n := by omega
  have n2 : k + 1 ≤ cap := by omega
  have i4 : IntKind.i64.wrap ((k : Int) + 1) = ((k + 1 : Nat) : Int) := by rw [IntKind.wrap_i64]; omega
  have i5 : (0 : Int) ≤ (k : Int) + 1 := by omega
  have i6 : (k : Int) + 1 ≤ n := by omega
  have i7 : ¬ (k : Int) < 0 := by omega
  have hbl := cell_lt c0
  obtain ⟨A, hA⟩ := if_addr ⟨rb, ro, none⟩ ⟨rb, ro + (k + 1) * 3, none⟩ (cap = k + 1)
  obtain ⟨j0, hi, hy0, hy1, hy2⟩ := info_parts Tryz.infoRE
  have HS : Hid (∀ W, Mod none' w W → Src Tryz.prog 3 101 (.slice (some ⟨rb, ro, none⟩) k cap) k (entCells pre) W ∧ Src Tryz.prog 3 101 (.slice (some A) (n - (k + 1)) (cap - (k + 1))) (n - (k + 1)) (entCells post) W) := Lib.hid (fun W hM => by
    have hr := hg.mod hM (fun _ _ _ => id)
    have h1 := hr.take (k := k) (c := cap) (by omega) (by omega) (Nat.le_refl _)
    have h2 := hr.srcTail (k := k + 1) (by omega) hA Tryz.underlying101 (entCells_one _)
    rw [entCells_take, htk] at h1
    rw [entCells_drop, hdr] at h2
    exact ⟨h1.src Tryz.underlying101 (entCells_one _), h2⟩)
  have Hn := Lib.hid (show n - (k + 1) = post.length by omega)
  have Hk := Lib.hid hk
  have HGT := Lib.hid hgot
  clear hg d0 d1 d2 hS hlen htk hdr hn hk hgot hpre
  go_enter Tryz.func108, Tryz.ntmps108
  go_wp2_with fail
  refine hat.mono ?_
  clear hat
  rintro e w1 ⟨⟨r, rfl, hr⟩, rfl⟩
  have hr2 := HGT.out r hr
  subst hr2
  clear hr
  go_wp2_with fail
  go_region_law
    (first
      | (refine step_append_g (by rfl) (.tmp 15) (.tmp 21) 101 101 (by rfl) 155 j0 _ 32 Tryz.underlying101 hi hy0 hy1 hy2 (by rfl) (by rfl) (GRowAt.nil _ none' 3 _) _ k (entCells pre) (by rfl) (HS.out _ (by exact modC (Mod.refl _ _))).1 (by omega) (by omega) ?_
         intro a6 cap6 w6 hg6 hM6 hz6
         simp only [Nat.zero_add, List.nil_append] at hg6
         have hMW6 : Mod none' w1 w6 := Mod.trans (by exact modC (Mod.refl _ _)) hM6
         have c06 := hMW6.at c0 id
         have f06 := (hMW6.frozen (p := ⟨b, 0, none⟩) hbl id).trans f0
         have hz6' := hMW6.size
         have hbl6 : b < w6.heap.size := Nat.lt_of_lt_of_le hbl hMW6.size)
      | (refine step_append_g (by rfl) (.tmp 22) (.tmp 29) 101 101 (by rfl) 155 j0 _ 32 Tryz.underlying101 hi hy0 hy1 hy2 (by rfl) (by rfl) (hg6.mod (F := none') (by exact modC (Mod.refl _ _)) (fun _ _ _ => id)) _ (n - (k + 1)) (entCells post) (by rfl) (HS.out _ (Mod.trans hMW6 (by exact modC (Mod.refl _ _)))).2 (by omega) (by omega) ?_
         intro a8 cap8 w8 hg8 hM8 hz8
         have hB8 : Below w1.heap.size w1 w8 := Below.trans (show Below w1.heap.size w1 _ from by
           have hB6 := hMW6.below
           exact belC hB6) (hM8.below_at (by first | exact hz6' | (simp only [World.size_alloc]; exact Nat.le_trans hz6' (by omega)) | (simp; omega)) (fun j hj e => by
           rcases e with e | e
           · exact e
           · simp at e; omega))
         have c08 := below_at hB8 c0 hbl
         have f08 := (hB8.frozen (p := ⟨b, 0, none⟩) hbl).trans f0)
      | fail)
  all_goals
    have hgE : GRowAt w8 (From w1.heap.size) 3 (k + (n - (k + 1))) cap8 a8 (entCells (pre ++ post)) := by
      rw [entCells_app]
      exact hg8.sub (fun j _ hj => by
        show w1.heap.size ≤ j
        rcases hj with (hj | hj) | hj
        · exact hj.elim
        · first
            | omega
            | (simp at hj; omega)
        · first
            | omega
            | (simp at hj; omega))
    obtain ⟨hS9, hMS9⟩ := H.out.setRow hB8 hgE (by rw [List.length_append, Hk.out, ← Hn.out, Hk.out])
    have HS9 := Lib.hid hS9
    have HM9 := Lib.hid hMS9
    clear hgE hg8 hM8 hB8 hg6 hM6 hMW6 hS9 hMS9
    go_wp2_with fail
    go_ret
    exact ⟨rfl, HS9.out, HM9.out⟩
end Go.Proofs.YtakbalmbkokklaaGreat
