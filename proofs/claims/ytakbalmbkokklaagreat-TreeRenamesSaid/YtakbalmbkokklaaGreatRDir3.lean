/- the document's names: ahead, Add -/
import Derived.Test.YtakbalmbkokklaaGreatPkRDir
import Derived.Test.YtakbalmbkokklaaGreatPkBase
namespace Go.Proofs.YtakbalmbkokklaaGreat
open Go.RowKit Esch Go.Shelf

def entV (e : Ent) : Value := .agg #[.int .i64 e.1.1, .string (bs e.1.2), .int .i64 e.2]
set_option maxRecDepth 100000 in
set_option maxHeartbeats 4000000 in
theorem rAhead_any (w : World) (x y : Ent) : Calls Tryz.prog 132 #[entV x, entV y] w fun e w' => e = .returned (.bool (keyLt x.1 y.1)) ∧ Below w.heap.size w w' := by
  obtain ⟨⟨xd, xn⟩, xi⟩ := x
  obtain ⟨⟨yd, yn⟩, yi⟩ := y
  simp only [entV, keyLt]
  by_cases h1 : xd < yd
  · rw [decide_eq_true h1, Bool.true_or]
    go_enter Tryz.func132, Tryz.ntmps132
    go_wp2_with fail
    go_ret
    exact ⟨rfl, by exact belC (Below.refl _ _)⟩
  · rw [decide_eq_false h1, Bool.false_or]
    by_cases h2 : xd = yd
    · subst h2
      rw [decide_eq_true rfl, Bool.true_and]
      unfold lexS
      obtain ⟨r, hr⟩ : ∃ r, r = Op.bytesLess xn yn := ⟨_, rfl⟩
      rw [← hr]
      have hr2 : Op.bytesLess (bs xn).toList (bs yn).toList = r := by rw [toList_bs, toList_bs, hr]
      clear hr h1
      cases r
      all_goals
        go_enter Tryz.func132, Tryz.ntmps132
        go_wp2_with fail
        go_ret
        exact ⟨rfl, by exact belC (Below.refl _ _)⟩
    · have h3 : (xd == yd) = false := by simpa using h2
      rw [decide_eq_false h2, Bool.false_and]
      clear h2
      go_enter Tryz.func132, Tryz.ntmps132
      go_wp2_with fail
      go_ret
      exact ⟨rfl, by exact belC (Below.refl _ _)⟩
def RAddRel (L : List Ent) (x : DK) (w : World) (g : Nat) (s10 : Value) (wr : World) : Prop := ∃ k : Nat, g = L.length - k ∧ k ≤ L.length ∧ s10 = .int .i64 k ∧ (∀ e ∈ L.take k, keyLt e.1 x = true) ∧ Below w.heap.size w wr
/-- a place for an entry -/
def InsAt (L : List Ent) (x : DK) (k : Nat) : Prop := k ≤ L.length ∧ (∀ e ∈ L.take k, keyLt e.1 x = true) ∧ ∀ e, L[k]? = some e → keyLt e.1 x = false
def RAddPost (w : World) (b : Nat) (T : Nat → Prop) (L : List Ent) (x : Ent) (e : Ending) (w' : World) : Prop := ∃ k, InsAt L x.1 k ∧ RNChg w b T (L.take k ++ x :: L.drop k) (.int .i64 0) e w'
set_option linter.unusedSimpArgs false in
set_option maxRecDepth 100000 in
set_option maxHeartbeats 8000000 in
theorem rNAdd_ok (w : World) (b : Nat) (T : Nat → Prop) (L : List Ent) (h : RNamAt w b T L) (hl : L.length ≤ 100000) (d i : Int) (nn : Nm) (hn : nameL nn = true) (hd0 : 1 ≤ d) (hd1 : d ≤ 2147483647) (hi0' : 1 ≤ i) (hi1 : i ≤ 2147483647) (hno : get L (d, nn) = none) (hc : (namesD' L d).length < 64) :
    Calls Tryz.prog 106 #[.pointer (some ⟨b, 0, none⟩), .int .i64 d, .string (bs nn), .int .i64 i] w (RAddPost w b T L ((d, nn), i)) := by
  have hnm := fun W => rName_any W nn
  rw [hn] at hnm
  have hat := fun W hW => rAt_any W b T L hW (by omega) d nn
  have hli := fun W hW => rList_any W b T L hW hl d
  have hah := fun W x y => rAhead_any W x y
  have H := Lib.hid h
  have HNO := Lib.hid hno
  have Hc := Lib.hid hc
  have hd0' : ¬ d < 1 := by omega
  have hd1' : ¬ 2147483647 < d := by omega
  have hi0'' : ¬ i < 1 := by omega
  have hi1' : ¬ 2147483647 < i := by omega
  obtain ⟨tb, lt, ao, cap, c0, f0, hg⟩ := h
  have HG := Lib.hid hg
  have hbl := cell_lt c0
  have Hl := Lib.hid hl
  clear hg hn hno hc
  go_enter Tryz.func106, Tryz.ntmps106
  go_wp2_with fail
  refine (hnm _).mono ?_
  clear hnm
  rintro e w1 ⟨rfl, rfl⟩
  go_wp2_with fail
  refine (hat _ H.out).mono ?_
  clear hat
  rintro e w1 ⟨⟨r, rfl, hr⟩, rfl⟩
  rcases hr.got with ⟨rfl, -⟩ | ⟨pre, post, i2, -, -, hgs⟩
  rotate_left 1
  · exfalso
    rw [HNO.out] at hgs; cases hgs
  clear hr
  go_wp2_with fail
  refine (hli _ H.out).mono ?_
  clear hli
  rintro e w2 ⟨a2, cc2, rfl, -, hB2⟩
  have h64 : ¬ (64 : Int) ≤ (namesD' L d).length := by have := Hc.out; omega
  have c02 := below_at hB2 c0 hbl
  obtain ⟨w3, hw3⟩ : ∃ w3, w3 = w2.alloc (.cells #[.int .i64 d, .string (bs nn), .int .i64 i] 155) := ⟨_, rfl⟩
  have hz2 := hB2.size
  have hB3 : Below w1.heap.size w1 w3 := by rw [hw3]; exact belC hB2
  have x0 : w3.cell? ⟨w2.heap.size, 0, none⟩ = some (.int .i64 d) := by rw [hw3]; go_simp
  have x1 : w3.cell? ⟨w2.heap.size, 1, none⟩ = some (.string (bs nn)) := by rw [hw3]; go_simp
  have x2 : w3.cell? ⟨w2.heap.size, 2, none⟩ = some (.int .i64 i) := by rw [hw3]; go_simp
  have HW3 := Lib.hid hw3
  have HB3 := Lib.hid hB3
  obtain ⟨xb, hxb⟩ : ∃ xb, xb = w2.heap.size := ⟨_, rfl⟩
  have hxw : w1.heap.size ≤ xb := by rw [hxb]; exact hB2.size
  rw [← hxb] at x0 x1 x2
  have HXB := Lib.hid hxb
  have hx3 := cell_lt x0
  have c03 := below_at hB3 c0 hbl
  clear hw3 hB3 hB2 hxb
  go_wp2_with fail
  rw [← HW3.out, ← HXB.out]
  clear c02
  go_loopg [10] L.length (fun g s10 wr => RAddRel L (d, nn) w3 g s10 wr)
  case atStart => exact ⟨0, rfl, Nat.zero_le _, rfl, fun e he => absurd he (by simp), Below.refl _ _⟩
  case round =>
    obtain ⟨k, rfl, hkl, rfl, hlt, hB⟩ := hrel
    have HLT := Lib.hid hlt
    have HBr := Lib.hid hB
    have y0 := below_at hB x0 hx3
    have y1 := below_at hB x1 hx3
    have y2 := below_at hB x2 hx3
    have c0r := below_at hB c03 (cell_lt c03)
    have HBw := Lib.hid (HB3.out.trans (hB.mono HB3.out.size))
    clear hlt hB
    have hxr := cell_lt y0
    have hbr := cell_lt c0r
    by_cases hk : k < L.length
    · have hsp := list_cut hk
      have hpl : (L.take k).length = k := by rw [List.length_take]; omega
      have hg2 := HG.out
      rw [show entCells L = entCells (L.take k ++ L[k] :: L.drop (k + 1)) by rw [← hsp]] at hg2
      obtain ⟨rb, ro, rfl, hS, hrl, d0, d1, d2⟩ := entAt hg2
      rw [hpl] at d0 d1 d2
      have e0 := below_at HBw.out d0 hrl
      have e1 := below_at HBw.out d1 hrl
      have e2 := below_at HBw.out d2 hrl
      have hk2 : (0 : Int) ≤ k ∧ (k : Int) < L.length := by omega
      have hms : L.length - (k + 1) < L.length - k := by omega
      have hwr := Lib.hid (show wrap64 ((k : Int) + 1) = ((k + 1 : Nat) : Int) by have := Hl.out; unfold wrap64; omega)
      obtain ⟨x, hx⟩ : ∃ x, x = L[k] := ⟨_, rfl⟩
      rw [← hx] at e0 e1 e2
      have HX := Lib.hid hx
      obtain ⟨r, hr⟩ : ∃ r, r = keyLt x.1 (d, nn) := ⟨_, rfl⟩
      have HR := Lib.hid hr
      have hah2 := fun W => hah W x ((d, nn), i)
      rw [← hr] at hah2
      obtain ⟨⟨xd, xn⟩, xi⟩ := x
      simp only [entV] at hah2 e0 e1 e2
      have hrl2 := cell_lt e0
      have hlt2 := decide_eq_true (show (k : Int) < L.length by omega)
      have hKd : wr.drew.cell? ⟨b, 0, none⟩ = some (.slice (some ⟨rb, ro, none⟩) L.length cap) ∧ wr.drew.cell? ⟨rb, ro + k * 3, none⟩ = some (.int .i64 xd) ∧ wr.drew.cell? ⟨rb, ro + k * 3 + 1, none⟩ = some (.string (bs xn)) ∧ wr.drew.cell? ⟨rb, ro + k * 3 + 2, none⟩ = some (.int .i64 xi) ∧
        wr.drew.cell? ⟨xb, 0, none⟩ = some (.int .i64 d) ∧ wr.drew.cell? ⟨xb, 1, none⟩ = some (.string (bs nn)) ∧ wr.drew.cell? ⟨xb, 2, none⟩ = some (.int .i64 i) := ⟨c0r, e0, e1, e2, y0, y1, y2⟩
      clear hsp hpl hg2 hS d0 d1 d2 hx hr
      go_wp2_with fail
      go_region_held3 (fun W' => W'.cell? ⟨b, 0, none⟩ = some (.slice (some ⟨rb, ro, none⟩) L.length cap) ∧ W'.cell? ⟨rb, ro + k * 3, none⟩ = some (.int .i64 xd) ∧ W'.cell? ⟨rb, ro + k * 3 + 1, none⟩ = some (.string (bs xn)) ∧ W'.cell? ⟨rb, ro + k * 3 + 2, none⟩ = some (.int .i64 xi) ∧
        W'.cell? ⟨xb, 0, none⟩ = some (.int .i64 d) ∧ W'.cell? ⟨xb, 1, none⟩ = some (.string (bs nn)) ∧ W'.cell? ⟨xb, 2, none⟩ = some (.int .i64 i))
        (first
          | with_reducible exact hKd
          | with_reducible exact hK2)
        (first
          | (go_at_call 132; (with_reducible refine (hah2 _).mono ?_); rintro e w4 ⟨rfl, hB4⟩
             have hK2 : w4.cell? ⟨b, 0, none⟩ = some (.slice (some ⟨rb, ro, none⟩) L.length cap) ∧ w4.cell? ⟨rb, ro + k * 3, none⟩ = some (.int .i64 xd) ∧ w4.cell? ⟨rb, ro + k * 3 + 1, none⟩ = some (.string (bs xn)) ∧ w4.cell? ⟨rb, ro + k * 3 + 2, none⟩ = some (.int .i64 xi) ∧
               w4.cell? ⟨xb, 0, none⟩ = some (.int .i64 d) ∧ w4.cell? ⟨xb, 1, none⟩ = some (.string (bs nn)) ∧ w4.cell? ⟨xb, 2, none⟩ = some (.int .i64 i) := ⟨below_at hB4 hKd.1 hbr, below_at hB4 hKd.2.1 hrl2, below_at hB4 hKd.2.2.1 hrl2, below_at hB4 hKd.2.2.2.1 hrl2, below_at hB4 hKd.2.2.2.2.1 hxr, below_at hB4 hKd.2.2.2.2.2.1 hxr, below_at hB4 hKd.2.2.2.2.2.2 hxr⟩
             have HB4 := Lib.hid (HBr.out.trans (Below.trans (show Below wr.heap.size wr wr.drew by exact belC (Below.refl _ _)) hB4 |>.mono HBr.out.size))
             clear hB4))
      cases r
      · have HINS := Lib.hid (show InsAt L (d, nn) k from ⟨hkl, HLT.out, fun e he => by
          rw [List.getElem?_eq_getElem hk] at he
          rw [← Option.some.inj he, ← HX.out]; exact HR.out.symm⟩)
        have q0 := hK2.1
        have p0 := hK2.2.2.2.2.1
        have p1 := hK2.2.2.2.2.2.1
        have p2 := hK2.2.2.2.2.2.2
        have HB5 := Lib.hid (HB3.out.trans (HB4.out.mono HB3.out.size))
        have hle := HG.out.le
        have hmx := HG.out.max
        have i1 : (k : Int) ≤ L.length := by omega
        have i2 : (L.length : Int) ≤ cap := by omega
        have i3 : (cap : Int) ≤ 9223372036854775807 := by omega
        have n0 : k ≤ cap := by omega
        have i5 : (0 : Int) ≤ k := by omega
        obtain ⟨A, hA⟩ := if_addr ⟨rb, ro, none⟩ ⟨rb, ro + k * 3, none⟩ (cap = k)
        have HS : Hid (∀ W, Mod none' w1 W → Src Tryz.prog 3 101 (.slice (some ⟨rb, ro, none⟩) k cap) k (entCells (L.take k)) W ∧ Src Tryz.prog 3 101 (.slice (some A) (L.length - k) (cap - k)) (L.length - k) (entCells (L.drop k)) W) := Lib.hid (fun W hM => by
          have hr := HG.out.mod hM (fun _ _ _ => id)
          have h1 := hr.take (k := k) (c := cap) (by omega) (by omega) (Nat.le_refl _)
          have h2 := hr.srcTail (k := k) (by omega) hA Tryz.underlying101 (entCells_one _)
          rw [entCells_take] at h1
          rw [entCells_drop] at h2
          exact ⟨h1.src Tryz.underlying101 (entCells_one _), h2⟩)
        obtain ⟨j0, hi, hy0, hy1, hy2⟩ := info_parts Tryz.infoRE
        have HKL := Lib.hid hkl
        clear hkl hle hmx c03 x0 x1 x2 y0 y1 y2 c0r e0 e1 e2 hKd hK2 hlt2
        obtain ⟨w5, hw5⟩ : ∃ w5, w5 = w4 := ⟨_, rfl⟩
        subst hw5
        go_wp2_with fail
        have hbl5 := cell_lt q0
        have hxl5 := cell_lt p0
        have g0 := (HB5.out.frozen (p := ⟨b, 0, none⟩) hbl).trans f0
        have hMB5 := Lib.hid (Mod.of_below (F := none') HB5.out)
        have hnL : L.length ≤ 100000 := Hl.out
        refine anyX_begin 21 (fun W' => W'.cell? ⟨b, 0, none⟩ = some (.slice (some ⟨rb, ro, none⟩) L.length cap) ∧ W'.cell? ⟨xb, 0, none⟩ = some (.int .i64 d) ∧ W'.cell? ⟨xb, 1, none⟩ = some (.string (bs nn)) ∧ W'.cell? ⟨xb, 2, none⟩ = some (.int .i64 i)) (by kernel_rfl) ⟨q0, p0, p1, p2⟩ (fun hHeld => ?_)
        refine takeX 0 ?_
        refine takeX 2 ?_
        refine takeX 3 ?_
        refine takeX 4 ?_
        refine takeX 5 ?_
        refine takeX 6 ?_
        refine takeX 7 ?_
        refine takeX 9 ?_
        refine takeX 12 ?_
        refine takeX 13 ?_
        refine takeX 14 ?_
        refine takeX 15 ?_
        refine takeX 16 ?_
        refine takeX 17 ?_
        refine anyX_ready (rs := [1, 10]) (by kernel_rfl) (by simp) ?_
        refine anyX_cons (o := ?_) ?_ (fun K hK => ?_) ?_
        rotate_left 1
        · simp only [List.getElem?_toArray, List.getElem?_cons_succ, List.getElem?_cons_zero]; rfl
        · skip
          go_simp
          try go_wp2_with fail
          refine hK.out _ _ ⟨by go_simp, by go_simp, by go_simp, by go_simp⟩ (fun hHeld => ?_)
          clear hK K
          try simp only [Act.put, List.setIfInBounds_toArray, List.set_cons_zero, List.set_cons_succ]
          refine anyX_ready (rs := [8, 10]) (by kernel_rfl) (by simp) ?_
          refine anyX_cons (o := ?_) ?_ (fun K hK => ?_) ?_
          rotate_left 1
          · simp only [List.getElem?_toArray, List.getElem?_cons_succ, List.getElem?_cons_zero]; rfl
          · skip
            refine step_append_g (by rfl) (.tmp 63) (.tmp 69) 101 101 (by rfl) 155 j0 _ 32 Tryz.underlying101 hi hy0 hy1 hy2 (by rfl) (by rfl) (GRowAt.nil _ none' 3 _) _ k (entCells (L.take k)) (by rfl) (HS.out _ (hMB5.out.trans (by exact modC (Mod.refl _ _)))).1 (by omega) (by omega) ?_
            intro a6 cap6 w6 hg6 hM6 hz6
            simp only [Nat.zero_add, List.nil_append] at hg6
            have hMW6 : Mod none' w5 w6 := Mod.trans (by exact modC (Mod.refl _ _)) hM6
            have hz6' := hMW6.size
            have hbl6 : b < w6.heap.size := Nat.lt_of_lt_of_le hbl5 hMW6.size
            have hxl6 : xb < w6.heap.size := Nat.lt_of_lt_of_le hxl5 hMW6.size
            have r0 := hMW6.at q0 id
            have r1 := hMW6.at p0 id
            have r2 := hMW6.at p1 id
            have r3 := hMW6.at p2 id
            try go_wp2_with fail
            refine hK.out _ _ ⟨r0, r1, r2, r3⟩ (fun hHeld => ?_)
            clear hK K
            try simp only [Act.put, List.setIfInBounds_toArray, List.set_cons_zero, List.set_cons_succ]
            refine anyX_ready (rs := [10]) (by kernel_rfl) (by simp) ?_
            refine anyX_cons (o := ?_) ?_ (fun K hK => ?_) ?_
            rotate_left 1
            · simp only [List.getElem?_toArray, List.getElem?_cons_succ, List.getElem?_cons_zero]; rfl
            rotate_left 1
            · exact anyX_nil
            go_simp
            try go_wp2_with fail
            refine hK.out _ _ ⟨by go_simp, by go_simp, by go_simp, by go_simp⟩ (fun hHeld => ?_)
            clear hK K
            try simp only [Act.put, List.setIfInBounds_toArray, List.set_cons_zero, List.set_cons_succ]
            refine anyX_ready (rs := [11]) (by kernel_rfl) (by simp) ?_
            refine anyX_cons (o := ?_) ?_ (fun K hK => ?_) ?_
            rotate_left 1
            · simp only [List.getElem?_toArray, List.getElem?_cons_succ, List.getElem?_cons_zero]; rfl
            rotate_left 1
            · exact anyX_nil
            refine step_append_g (by rfl) (.tmp 70) (.tmp 72) 101 101 (by rfl) 155 j0 _ 32 Tryz.underlying101 hi hy0 hy1 hy2 (by rfl) (by rfl) (hg6.mod (F := none') (by exact modC (Mod.refl _ _)) (fun _ _ _ => id)) _ 1 (entC ((d, nn), i)) (by rfl) (src_ent _ _ Tryz.underlying101 _ ((d, nn), i) 155 (heap_alloc_new _ _) _) (by omega) (by omega) ?_
            intro a7 cap7 w7 hg7 hM7 hz7
            have hB7 : Below w5.heap.size w5 w7 := Below.trans (show Below w5.heap.size w5 _ from by
              have hB6 := hMW6.below
              exact belC hB6) (hM7.below_at (by first | exact hz6' | (simp only [World.size_alloc]; exact Nat.le_trans hz6' (by omega)) | (simp; omega)) (fun j hj e => by
              rcases e with e | e
              · exact e
              · simp at e; omega))
            have hMW7 : Mod none' w5 w7 := Mod.of_below hB7
            have hz7' := hB7.size
            have hbl7 : b < w7.heap.size := Nat.lt_of_lt_of_le hbl5 hz7'
            have s0 := below_at hB7 q0 hbl5
            have s1 := below_at hB7 p0 hxl5
            have s2 := below_at hB7 p1 hxl5
            have s3 := below_at hB7 p2 hxl5
            try go_wp2_with fail
            refine hK.out _ _ ⟨s0, s1, s2, s3⟩ (fun hHeld => ?_)
            clear hK K
            try simp only [Act.put, List.setIfInBounds_toArray, List.set_cons_zero, List.set_cons_succ]
            refine anyX_ready (rs := [18]) (by kernel_rfl) (by simp) ?_
            refine anyX_cons (o := ?_) ?_ (fun K hK => ?_) ?_
            rotate_left 1
            · simp only [List.getElem?_toArray, List.getElem?_cons_succ, List.getElem?_cons_zero]; rfl
            rotate_left 1
            · exact anyX_nil
            refine step_append_g (by rfl) (.tmp 73) (.tmp 79) 101 101 (by rfl) 155 j0 _ 32 Tryz.underlying101 hi hy0 hy1 hy2 (by rfl) (by rfl) (hg7.mod (F := none') (by exact modC (Mod.refl _ _)) (fun _ _ _ => id)) _ (L.length - k) (entCells (L.drop k)) (by rfl) (HS.out _ (hMB5.out.trans (Mod.trans hMW7 (by exact modC (Mod.refl _ _))))).2 (by omega) (by omega) ?_
            intro a8 cap8 w8 hg8 hM8 hz8
            have hB8 : Below w5.heap.size w5 w8 := Below.trans (show Below w5.heap.size w5 _ from by
              have hB7' := hMW7.below
              exact belC hB7') (hM8.below_at (by first | exact hz7' | (simp only [World.size_alloc]; exact Nat.le_trans hz7' (by omega)) | (simp; omega)) (fun j hj e => by
              rcases e with (e | e) | e
              · exact e
              · first
                  | omega
                  | (simp at e; omega)
              · first
                  | omega
                  | (simp at e; omega)))
            have c08 := below_at hB8 q0 hbl5
            have f08 := (hB8.frozen (p := ⟨b, 0, none⟩) hbl5).trans g0
            try go_wp2_with fail
            refine hK.out _ _ ⟨c08, below_at hB8 p0 hxl5, below_at hB8 p1 hxl5, below_at hB8 p2 hxl5⟩ (fun hHeld => ?_)
            clear hK K
            try simp only [Act.put, List.setIfInBounds_toArray, List.set_cons_zero, List.set_cons_succ]
            refine anyX_ready (rs := [19]) (by kernel_rfl) (by simp) ?_
            refine anyX_cons (o := ?_) ?_ (fun K hK => ?_) ?_
            rotate_left 1
            · simp only [List.getElem?_toArray, List.getElem?_cons_succ, List.getElem?_cons_zero]; rfl
            rotate_left 1
            · exact anyX_nil
            go_simp
            try go_wp2_with fail
            refine hK.out _ _ hHeld (fun hHeld => ?_)
            clear hK K
            try simp only [Act.put, List.setIfInBounds_toArray, List.set_cons_zero, List.set_cons_succ]
            refine takeX 20 ?_
            refine anyX_ready (rs := [21]) (by kernel_rfl) (by simp) ?_
            refine anyX_last (o := ?_) ?_ (fun K hK => ?_)
            rotate_left 1
            · simp only [List.getElem?_toArray, List.getElem?_cons_succ, List.getElem?_cons_zero]; rfl
            go_simp
            refine hK.out _ _ (anyX_done (by kernel_rfl) ?_ _)
            clear hK K
            have hgE : GRowAt w8 (From w1.heap.size) 3 (k + 1 + (L.length - k)) cap8 a8 (entCells (L.take k ++ ((d, nn), i) :: L.drop k)) := by
              rw [entCells_app, show entCells (((d, nn), i) :: L.drop k) = entC ((d, nn), i) ++ entCells (L.drop k) from rfl, ← List.append_assoc]
              exact hg8.sub (T := From w1.heap.size) (fun j _ hj => by
                show w1.heap.size ≤ j
                have h5 := HB5.out.size
                rcases hj with ((hj | hj) | hj) | hj
                · exact hj.elim
                · first
                    | omega
                    | (simp at hj; omega)
                · first
                    | omega
                    | (simp at hj; omega)
                · first
                    | omega
                    | (simp at hj; omega))
            obtain ⟨hS9, hMS9⟩ := H.out.setRow (HB5.out.trans (hB8.mono HB5.out.size)) hgE (by rw [List.length_append, List.length_cons, List.length_take, List.length_drop]; have := HKL.out; omega)
            have HS9 := Lib.hid hS9
            have HM9 := Lib.hid hMS9
            clear hgE hg8 hM8 hB8 hg7 hM7 hB7 hMW7 hg6 hM6 hMW6 hS9 hMS9
            go_wp2_with fail
            go_ret
            exact ⟨k, HINS.out, rfl, HS9.out, HM9.out⟩
          · skip
            refine anyX_cons (o := ?_) ?_ (fun K hK => ?_) ?_
            rotate_left 1
            · simp only [List.getElem?_toArray, List.getElem?_cons_succ, List.getElem?_cons_zero]; rfl
            rotate_left 1
            · exact anyX_nil
            go_simp
            try go_wp2_with fail
            refine hK.out _ _ ⟨by go_simp, by go_simp, by go_simp, by go_simp⟩ (fun hHeld => ?_)
            clear hK K
            try simp only [Act.put, List.setIfInBounds_toArray, List.set_cons_zero, List.set_cons_succ]
            refine anyX_ready (rs := [8]) (by kernel_rfl) (by simp) ?_
            refine anyX_cons (o := ?_) ?_ (fun K hK => ?_) ?_
            rotate_left 1
            · simp only [List.getElem?_toArray, List.getElem?_cons_succ, List.getElem?_cons_zero]; rfl
            rotate_left 1
            · exact anyX_nil
            refine step_append_g (by rfl) (.tmp 63) (.tmp 69) 101 101 (by rfl) 155 j0 _ 32 Tryz.underlying101 hi hy0 hy1 hy2 (by rfl) (by rfl) (GRowAt.nil _ none' 3 _) _ k (entCells (L.take k)) (by rfl) (HS.out _ (hMB5.out.trans (by exact modC (Mod.refl _ _)))).1 (by omega) (by omega) ?_
            intro a6 cap6 w6 hg6 hM6 hz6
            simp only [Nat.zero_add, List.nil_append] at hg6
            have hMW6 : Mod none' w5 w6 := Mod.trans (by exact modC (Mod.refl _ _)) hM6
            have hz6' := hMW6.size
            have hbl6 : b < w6.heap.size := Nat.lt_of_lt_of_le hbl5 hMW6.size
            have hxl6 : xb < w6.heap.size := Nat.lt_of_lt_of_le hxl5 hMW6.size
            have r0 := hMW6.at q0 id
            have r1 := hMW6.at p0 id
            have r2 := hMW6.at p1 id
            have r3 := hMW6.at p2 id
            try go_wp2_with fail
            refine hK.out _ _ ⟨r0, r1, r2, r3⟩ (fun hHeld => ?_)
            clear hK K
            try simp only [Act.put, List.setIfInBounds_toArray, List.set_cons_zero, List.set_cons_succ]
            refine anyX_ready (rs := [11]) (by kernel_rfl) (by simp) ?_
            refine anyX_cons (o := ?_) ?_ (fun K hK => ?_) ?_
            rotate_left 1
            · simp only [List.getElem?_toArray, List.getElem?_cons_succ, List.getElem?_cons_zero]; rfl
            rotate_left 1
            · exact anyX_nil
            refine step_append_g (by rfl) (.tmp 70) (.tmp 72) 101 101 (by rfl) 155 j0 _ 32 Tryz.underlying101 hi hy0 hy1 hy2 (by rfl) (by rfl) (hg6.mod (F := none') (by exact modC (Mod.refl _ _)) (fun _ _ _ => id)) _ 1 (entC ((d, nn), i)) (by rfl) (src_ent _ _ Tryz.underlying101 _ ((d, nn), i) 155 ((hM6.block _ (twoLt _ _ _).2 id).trans (heapTwoLast _ _ _)) _) (by omega) (by omega) ?_
            intro a7 cap7 w7 hg7 hM7 hz7
            have hB7 : Below w5.heap.size w5 w7 := Below.trans (show Below w5.heap.size w5 _ from by
              have hB6 := hMW6.below
              exact belC hB6) (hM7.below_at (by first | exact hz6' | (simp only [World.size_alloc]; exact Nat.le_trans hz6' (by omega)) | (simp; omega)) (fun j hj e => by
              rcases e with e | e
              · exact e
              · simp at e; omega))
            have hMW7 : Mod none' w5 w7 := Mod.of_below hB7
            have hz7' := hB7.size
            have hbl7 : b < w7.heap.size := Nat.lt_of_lt_of_le hbl5 hz7'
            have s0 := below_at hB7 q0 hbl5
            have s1 := below_at hB7 p0 hxl5
            have s2 := below_at hB7 p1 hxl5
            have s3 := below_at hB7 p2 hxl5
            try go_wp2_with fail
            refine hK.out _ _ ⟨s0, s1, s2, s3⟩ (fun hHeld => ?_)
            clear hK K
            try simp only [Act.put, List.setIfInBounds_toArray, List.set_cons_zero, List.set_cons_succ]
            refine anyX_ready (rs := [18]) (by kernel_rfl) (by simp) ?_
            refine anyX_cons (o := ?_) ?_ (fun K hK => ?_) ?_
            rotate_left 1
            · simp only [List.getElem?_toArray, List.getElem?_cons_succ, List.getElem?_cons_zero]; rfl
            rotate_left 1
            · exact anyX_nil
            refine step_append_g (by rfl) (.tmp 73) (.tmp 79) 101 101 (by rfl) 155 j0 _ 32 Tryz.underlying101 hi hy0 hy1 hy2 (by rfl) (by rfl) (hg7.mod (F := none') (by exact modC (Mod.refl _ _)) (fun _ _ _ => id)) _ (L.length - k) (entCells (L.drop k)) (by rfl) (HS.out _ (hMB5.out.trans (Mod.trans hMW7 (by exact modC (Mod.refl _ _))))).2 (by omega) (by omega) ?_
            intro a8 cap8 w8 hg8 hM8 hz8
            have hB8 : Below w5.heap.size w5 w8 := Below.trans (show Below w5.heap.size w5 _ from by
              have hB7' := hMW7.below
              exact belC hB7') (hM8.below_at (by first | exact hz7' | (simp only [World.size_alloc]; exact Nat.le_trans hz7' (by omega)) | (simp; omega)) (fun j hj e => by
              rcases e with (e | e) | e
              · exact e
              · first
                  | omega
                  | (simp at e; omega)
              · first
                  | omega
                  | (simp at e; omega)))
            have c08 := below_at hB8 q0 hbl5
            have f08 := (hB8.frozen (p := ⟨b, 0, none⟩) hbl5).trans g0
            try go_wp2_with fail
            refine hK.out _ _ ⟨c08, below_at hB8 p0 hxl5, below_at hB8 p1 hxl5, below_at hB8 p2 hxl5⟩ (fun hHeld => ?_)
            clear hK K
            try simp only [Act.put, List.setIfInBounds_toArray, List.set_cons_zero, List.set_cons_succ]
            refine anyX_ready (rs := [19]) (by kernel_rfl) (by simp) ?_
            refine anyX_cons (o := ?_) ?_ (fun K hK => ?_) ?_
            rotate_left 1
            · simp only [List.getElem?_toArray, List.getElem?_cons_succ, List.getElem?_cons_zero]; rfl
            rotate_left 1
            · exact anyX_nil
            go_simp
            try go_wp2_with fail
            refine hK.out _ _ hHeld (fun hHeld => ?_)
            clear hK K
            try simp only [Act.put, List.setIfInBounds_toArray, List.set_cons_zero, List.set_cons_succ]
            refine takeX 20 ?_
            refine anyX_ready (rs := [21]) (by kernel_rfl) (by simp) ?_
            refine anyX_last (o := ?_) ?_ (fun K hK => ?_)
            rotate_left 1
            · simp only [List.getElem?_toArray, List.getElem?_cons_succ, List.getElem?_cons_zero]; rfl
            go_simp
            refine hK.out _ _ (anyX_done (by kernel_rfl) ?_ _)
            clear hK K
            have hgE : GRowAt w8 (From w1.heap.size) 3 (k + 1 + (L.length - k)) cap8 a8 (entCells (L.take k ++ ((d, nn), i) :: L.drop k)) := by
              rw [entCells_app, show entCells (((d, nn), i) :: L.drop k) = entC ((d, nn), i) ++ entCells (L.drop k) from rfl, ← List.append_assoc]
              exact hg8.sub (T := From w1.heap.size) (fun j _ hj => by
                show w1.heap.size ≤ j
                have h5 := HB5.out.size
                rcases hj with ((hj | hj) | hj) | hj
                · exact hj.elim
                · first
                    | omega
                    | (simp at hj; omega)
                · first
                    | omega
                    | (simp at hj; omega)
                · first
                    | omega
                    | (simp at hj; omega))
            obtain ⟨hS9, hMS9⟩ := H.out.setRow (HB5.out.trans (hB8.mono HB5.out.size)) hgE (by rw [List.length_append, List.length_cons, List.length_take, List.length_drop]; have := HKL.out; omega)
            have HS9 := Lib.hid hS9
            have HM9 := Lib.hid hMS9
            clear hgE hg8 hM8 hB8 hg7 hM7 hB7 hMW7 hg6 hM6 hMW6 hS9 hMS9
            go_wp2_with fail
            go_ret
            exact ⟨k, HINS.out, rfl, HS9.out, HM9.out⟩
        · skip
          refine anyX_cons (o := ?_) ?_ (fun K hK => ?_) ?_
          rotate_left 1
          · simp only [List.getElem?_toArray, List.getElem?_cons_succ, List.getElem?_cons_zero]; rfl
          rotate_left 1
          · exact anyX_nil
          go_simp
          try go_wp2_with fail
          refine hK.out _ _ ⟨by go_simp, by go_simp, by go_simp, by go_simp⟩ (fun hHeld => ?_)
          clear hK K
          try simp only [Act.put, List.setIfInBounds_toArray, List.set_cons_zero, List.set_cons_succ]
          refine anyX_ready (rs := [1]) (by kernel_rfl) (by simp) ?_
          refine anyX_cons (o := ?_) ?_ (fun K hK => ?_) ?_
          rotate_left 1
          · simp only [List.getElem?_toArray, List.getElem?_cons_succ, List.getElem?_cons_zero]; rfl
          rotate_left 1
          · exact anyX_nil
          go_simp
          try go_wp2_with fail
          refine hK.out _ _ ⟨by go_simp, by go_simp, by go_simp, by go_simp⟩ (fun hHeld => ?_)
          clear hK K
          try simp only [Act.put, List.setIfInBounds_toArray, List.set_cons_zero, List.set_cons_succ]
          refine anyX_ready (rs := [8]) (by kernel_rfl) (by simp) ?_
          refine anyX_cons (o := ?_) ?_ (fun K hK => ?_) ?_
          rotate_left 1
          · simp only [List.getElem?_toArray, List.getElem?_cons_succ, List.getElem?_cons_zero]; rfl
          rotate_left 1
          · exact anyX_nil
          refine step_append_g (by rfl) (.tmp 63) (.tmp 69) 101 101 (by rfl) 155 j0 _ 32 Tryz.underlying101 hi hy0 hy1 hy2 (by rfl) (by rfl) (GRowAt.nil _ none' 3 _) _ k (entCells (L.take k)) (by rfl) (HS.out _ (hMB5.out.trans (by exact modC (Mod.refl _ _)))).1 (by omega) (by omega) ?_
          intro a6 cap6 w6 hg6 hM6 hz6
          simp only [Nat.zero_add, List.nil_append] at hg6
          have hMW6 : Mod none' w5 w6 := Mod.trans (by exact modC (Mod.refl _ _)) hM6
          have hz6' := hMW6.size
          have hbl6 : b < w6.heap.size := Nat.lt_of_lt_of_le hbl5 hMW6.size
          have hxl6 : xb < w6.heap.size := Nat.lt_of_lt_of_le hxl5 hMW6.size
          have r0 := hMW6.at q0 id
          have r1 := hMW6.at p0 id
          have r2 := hMW6.at p1 id
          have r3 := hMW6.at p2 id
          try go_wp2_with fail
          refine hK.out _ _ ⟨r0, r1, r2, r3⟩ (fun hHeld => ?_)
          clear hK K
          try simp only [Act.put, List.setIfInBounds_toArray, List.set_cons_zero, List.set_cons_succ]
          refine anyX_ready (rs := [11]) (by kernel_rfl) (by simp) ?_
          refine anyX_cons (o := ?_) ?_ (fun K hK => ?_) ?_
          rotate_left 1
          · simp only [List.getElem?_toArray, List.getElem?_cons_succ, List.getElem?_cons_zero]; rfl
          rotate_left 1
          · exact anyX_nil
          refine step_append_g (by rfl) (.tmp 70) (.tmp 72) 101 101 (by rfl) 155 j0 _ 32 Tryz.underlying101 hi hy0 hy1 hy2 (by rfl) (by rfl) (hg6.mod (F := none') (by exact modC (Mod.refl _ _)) (fun _ _ _ => id)) _ 1 (entC ((d, nn), i)) (by rfl) (src_ent _ _ Tryz.underlying101 _ ((d, nn), i) 155 ((hM6.block _ (twoLt _ _ _).1 id).trans (heapTwoFirst _ _ _)) _) (by omega) (by omega) ?_
          intro a7 cap7 w7 hg7 hM7 hz7
          have hB7 : Below w5.heap.size w5 w7 := Below.trans (show Below w5.heap.size w5 _ from by
            have hB6 := hMW6.below
            exact belC hB6) (hM7.below_at (by first | exact hz6' | (simp only [World.size_alloc]; exact Nat.le_trans hz6' (by omega)) | (simp; omega)) (fun j hj e => by
            rcases e with e | e
            · exact e
            · simp at e; omega))
          have hMW7 : Mod none' w5 w7 := Mod.of_below hB7
          have hz7' := hB7.size
          have hbl7 : b < w7.heap.size := Nat.lt_of_lt_of_le hbl5 hz7'
          have s0 := below_at hB7 q0 hbl5
          have s1 := below_at hB7 p0 hxl5
          have s2 := below_at hB7 p1 hxl5
          have s3 := below_at hB7 p2 hxl5
          try go_wp2_with fail
          refine hK.out _ _ ⟨s0, s1, s2, s3⟩ (fun hHeld => ?_)
          clear hK K
          try simp only [Act.put, List.setIfInBounds_toArray, List.set_cons_zero, List.set_cons_succ]
          refine anyX_ready (rs := [18]) (by kernel_rfl) (by simp) ?_
          refine anyX_cons (o := ?_) ?_ (fun K hK => ?_) ?_
          rotate_left 1
          · simp only [List.getElem?_toArray, List.getElem?_cons_succ, List.getElem?_cons_zero]; rfl
          rotate_left 1
          · exact anyX_nil
          refine step_append_g (by rfl) (.tmp 73) (.tmp 79) 101 101 (by rfl) 155 j0 _ 32 Tryz.underlying101 hi hy0 hy1 hy2 (by rfl) (by rfl) (hg7.mod (F := none') (by exact modC (Mod.refl _ _)) (fun _ _ _ => id)) _ (L.length - k) (entCells (L.drop k)) (by rfl) (HS.out _ (hMB5.out.trans (Mod.trans hMW7 (by exact modC (Mod.refl _ _))))).2 (by omega) (by omega) ?_
          intro a8 cap8 w8 hg8 hM8 hz8
          have hB8 : Below w5.heap.size w5 w8 := Below.trans (show Below w5.heap.size w5 _ from by
            have hB7' := hMW7.below
            exact belC hB7') (hM8.below_at (by first | exact hz7' | (simp only [World.size_alloc]; exact Nat.le_trans hz7' (by omega)) | (simp; omega)) (fun j hj e => by
            rcases e with (e | e) | e
            · exact e
            · first
                | omega
                | (simp at e; omega)
            · first
                | omega
                | (simp at e; omega)))
          have c08 := below_at hB8 q0 hbl5
          have f08 := (hB8.frozen (p := ⟨b, 0, none⟩) hbl5).trans g0
          try go_wp2_with fail
          refine hK.out _ _ ⟨c08, below_at hB8 p0 hxl5, below_at hB8 p1 hxl5, below_at hB8 p2 hxl5⟩ (fun hHeld => ?_)
          clear hK K
          try simp only [Act.put, List.setIfInBounds_toArray, List.set_cons_zero, List.set_cons_succ]
          refine anyX_ready (rs := [19]) (by kernel_rfl) (by simp) ?_
          refine anyX_cons (o := ?_) ?_ (fun K hK => ?_) ?_
          rotate_left 1
          · simp only [List.getElem?_toArray, List.getElem?_cons_succ, List.getElem?_cons_zero]; rfl
          rotate_left 1
          · exact anyX_nil
          go_simp
          try go_wp2_with fail
          refine hK.out _ _ hHeld (fun hHeld => ?_)
          clear hK K
          try simp only [Act.put, List.setIfInBounds_toArray, List.set_cons_zero, List.set_cons_succ]
          refine takeX 20 ?_
          refine anyX_ready (rs := [21]) (by kernel_rfl) (by simp) ?_
          refine anyX_last (o := ?_) ?_ (fun K hK => ?_)
          rotate_left 1
          · simp only [List.getElem?_toArray, List.getElem?_cons_succ, List.getElem?_cons_zero]; rfl
          go_simp
          refine hK.out _ _ (anyX_done (by kernel_rfl) ?_ _)
          clear hK K
          have hgE : GRowAt w8 (From w1.heap.size) 3 (k + 1 + (L.length - k)) cap8 a8 (entCells (L.take k ++ ((d, nn), i) :: L.drop k)) := by
            rw [entCells_app, show entCells (((d, nn), i) :: L.drop k) = entC ((d, nn), i) ++ entCells (L.drop k) from rfl, ← List.append_assoc]
            exact hg8.sub (T := From w1.heap.size) (fun j _ hj => by
              show w1.heap.size ≤ j
              have h5 := HB5.out.size
              rcases hj with ((hj | hj) | hj) | hj
              · exact hj.elim
              · first
                  | omega
                  | (simp at hj; omega)
              · first
                  | omega
                  | (simp at hj; omega)
              · first
                  | omega
                  | (simp at hj; omega))
          obtain ⟨hS9, hMS9⟩ := H.out.setRow (HB5.out.trans (hB8.mono HB5.out.size)) hgE (by rw [List.length_append, List.length_cons, List.length_take, List.length_drop]; have := HKL.out; omega)
          have HS9 := Lib.hid hS9
          have HM9 := Lib.hid hMS9
          clear hgE hg8 hM8 hB8 hg7 hM7 hB7 hMW7 hg6 hM6 hMW6 hS9 hMS9
          go_wp2_with fail
          go_ret
          exact ⟨k, HINS.out, rfl, HS9.out, HM9.out⟩
      · go_wp2_with fail
        go_roundg (L.length - (k + 1))
        case measure => exact hms
        case rel => exact ⟨k + 1, rfl, hk, by first | rfl | rw [hwr.out], fun e he => by
          rw [List.take_succ_eq_append_getElem hk] at he
          rcases List.mem_append.1 he with he | he
          · exact HLT.out e he
          · rw [List.mem_singleton] at he; rw [he, ← HX.out]; exact HR.out.symm, HB4.out⟩
    · have hkL : k = L.length := by omega
      have HINS := Lib.hid (show InsAt L (d, nn) k from ⟨hkl, HLT.out, fun e he => by rw [hkL, List.getElem?_eq_none (Nat.le_refl _)] at he; cases he⟩)
      have hlt2 : ¬ (k : Int) < L.length := by omega
      have hlt3 : ¬ k < L.length := by omega
      have hqq : ∀ n, (wr.drewN n).cell? ⟨b, 0, none⟩ = some (.slice ao L.length cap) ∧ (wr.drewN n).cell? ⟨xb, 0, none⟩ = some (.int .i64 d) ∧ (wr.drewN n).cell? ⟨xb, 1, none⟩ = some (.string (bs nn)) ∧ (wr.drewN n).cell? ⟨xb, 2, none⟩ = some (.int .i64 i) ∧ Below w1.heap.size w1 (wr.drewN n) := fun n => by
        have hB := below_drewN (Below.refl wr.heap.size wr) n
        exact ⟨below_at hB c0r hbr, below_at hB y0 hxr, below_at hB y1 hxr, below_at hB y2 hxr, below_drewN HBw.out n⟩
      have HKL := Lib.hid hkl
      have HQQ := Lib.hid hqq
      have HkL := Lib.hid hkL
      have i5 : (0 : Int) ≤ k := by omega
      have i1 : (k : Int) ≤ L.length := by omega
      clear hqq hkl hkL hk
      go_wp2_with fail
      go_quiet (fail)
      go_wp2_with fail
      generalize hw5 : World.drewN wr _ = w5
      have HB5 : Hid (Below w1.heap.size w1 w5) := Lib.hid (by rw [← hw5]; exact (HQQ.out _).2.2.2.2)
      have q0 : w5.cell? ⟨b, 0, none⟩ = some (.slice ao L.length cap) := by rw [← hw5]; exact (HQQ.out _).1
      have p0 : w5.cell? ⟨xb, 0, none⟩ = some (.int .i64 d) := by rw [← hw5]; exact (HQQ.out _).2.1
      have p1 : w5.cell? ⟨xb, 1, none⟩ = some (.string (bs nn)) := by rw [← hw5]; exact (HQQ.out _).2.2.1
      have p2 : w5.cell? ⟨xb, 2, none⟩ = some (.int .i64 i) := by rw [← hw5]; exact (HQQ.out _).2.2.2.1
      have hle := HG.out.le
      have hmx := HG.out.max
      have i2 : (L.length : Int) ≤ cap := by omega
      have i3 : (cap : Int) ≤ 9223372036854775807 := by omega
      have n0 : k ≤ cap := by have := HKL.out; omega
      obtain ⟨j0, hi, hy0, hy1, hy2⟩ := info_parts Tryz.infoRE
      clear hw5 HQQ c03 x0 x1 x2 y0 y1 y2 c0r hlt2 hlt3 hle hmx
      by_cases hcap : 0 < cap
      · obtain ⟨rb, ro, e, -, -, -, -⟩ := HG.out.at' hcap
        subst e
        obtain ⟨A, hA⟩ := if_addr ⟨rb, ro, none⟩ ⟨rb, ro + k * 3, none⟩ (cap = k)
        have HS : Hid (∀ W, Mod none' w1 W → Src Tryz.prog 3 101 (.slice (some ⟨rb, ro, none⟩) k cap) k (entCells (L.take k)) W ∧ Src Tryz.prog 3 101 (.slice (some A) (L.length - k) (cap - k)) (L.length - k) (entCells (L.drop k)) W) := Lib.hid (fun W hM => by
          have hr := HG.out.mod hM (fun _ _ _ => id)
          have h1 := hr.take (k := k) (c := cap) (by have := HKL.out; omega) (by omega) (Nat.le_refl _)
          have h2 := hr.srcTail (k := k) (by have := HKL.out; omega) hA Tryz.underlying101 (entCells_one _)
          rw [entCells_take] at h1
          rw [entCells_drop] at h2
          exact ⟨h1.src Tryz.underlying101 (entCells_one _), h2⟩)
        have hbl5 := cell_lt q0
        have hxl5 := cell_lt p0
        have g0 := (HB5.out.frozen (p := ⟨b, 0, none⟩) hbl).trans f0
        have hMB5 := Lib.hid (Mod.of_below (F := none') HB5.out)
        have hnL : L.length ≤ 100000 := Hl.out
        refine anyX_begin 21 (fun W' => W'.cell? ⟨b, 0, none⟩ = some (.slice (some ⟨rb, ro, none⟩) L.length cap) ∧ W'.cell? ⟨xb, 0, none⟩ = some (.int .i64 d) ∧ W'.cell? ⟨xb, 1, none⟩ = some (.string (bs nn)) ∧ W'.cell? ⟨xb, 2, none⟩ = some (.int .i64 i)) (by kernel_rfl) ⟨q0, p0, p1, p2⟩ (fun hHeld => ?_)
        refine takeX 0 ?_
        refine takeX 2 ?_
        refine takeX 3 ?_
        refine takeX 4 ?_
        refine takeX 5 ?_
        refine takeX 6 ?_
        refine takeX 7 ?_
        refine takeX 9 ?_
        refine takeX 12 ?_
        refine takeX 13 ?_
        refine takeX 14 ?_
        refine takeX 15 ?_
        refine takeX 16 ?_
        refine takeX 17 ?_
        refine anyX_ready (rs := [1, 10]) (by kernel_rfl) (by simp) ?_
        refine anyX_cons (o := ?_) ?_ (fun K hK => ?_) ?_
        rotate_left 1
        · simp only [List.getElem?_toArray, List.getElem?_cons_succ, List.getElem?_cons_zero]; rfl
        · skip
          go_simp
          try go_wp2_with fail
          refine hK.out _ _ ⟨by go_simp, by go_simp, by go_simp, by go_simp⟩ (fun hHeld => ?_)
          clear hK K
          try simp only [Act.put, List.setIfInBounds_toArray, List.set_cons_zero, List.set_cons_succ]
          refine anyX_ready (rs := [8, 10]) (by kernel_rfl) (by simp) ?_
          refine anyX_cons (o := ?_) ?_ (fun K hK => ?_) ?_
          rotate_left 1
          · simp only [List.getElem?_toArray, List.getElem?_cons_succ, List.getElem?_cons_zero]; rfl
          · skip
            refine step_append_g (by rfl) (.tmp 63) (.tmp 69) 101 101 (by rfl) 155 j0 _ 32 Tryz.underlying101 hi hy0 hy1 hy2 (by rfl) (by rfl) (GRowAt.nil _ none' 3 _) _ k (entCells (L.take k)) (by rfl) (HS.out _ (hMB5.out.trans (by exact modC (Mod.refl _ _)))).1 (by omega) (by omega) ?_
            intro a6 cap6 w6 hg6 hM6 hz6
            simp only [Nat.zero_add, List.nil_append] at hg6
            have hMW6 : Mod none' w5 w6 := Mod.trans (by exact modC (Mod.refl _ _)) hM6
            have hz6' := hMW6.size
            have hbl6 : b < w6.heap.size := Nat.lt_of_lt_of_le hbl5 hMW6.size
            have hxl6 : xb < w6.heap.size := Nat.lt_of_lt_of_le hxl5 hMW6.size
            have r0 := hMW6.at q0 id
            have r1 := hMW6.at p0 id
            have r2 := hMW6.at p1 id
            have r3 := hMW6.at p2 id
            try go_wp2_with fail
            refine hK.out _ _ ⟨r0, r1, r2, r3⟩ (fun hHeld => ?_)
            clear hK K
            try simp only [Act.put, List.setIfInBounds_toArray, List.set_cons_zero, List.set_cons_succ]
            refine anyX_ready (rs := [10]) (by kernel_rfl) (by simp) ?_
            refine anyX_cons (o := ?_) ?_ (fun K hK => ?_) ?_
            rotate_left 1
            · simp only [List.getElem?_toArray, List.getElem?_cons_succ, List.getElem?_cons_zero]; rfl
            rotate_left 1
            · exact anyX_nil
            go_simp
            try go_wp2_with fail
            refine hK.out _ _ ⟨by go_simp, by go_simp, by go_simp, by go_simp⟩ (fun hHeld => ?_)
            clear hK K
            try simp only [Act.put, List.setIfInBounds_toArray, List.set_cons_zero, List.set_cons_succ]
            refine anyX_ready (rs := [11]) (by kernel_rfl) (by simp) ?_
            refine anyX_cons (o := ?_) ?_ (fun K hK => ?_) ?_
            rotate_left 1
            · simp only [List.getElem?_toArray, List.getElem?_cons_succ, List.getElem?_cons_zero]; rfl
            rotate_left 1
            · exact anyX_nil
            refine step_append_g (by rfl) (.tmp 70) (.tmp 72) 101 101 (by rfl) 155 j0 _ 32 Tryz.underlying101 hi hy0 hy1 hy2 (by rfl) (by rfl) (hg6.mod (F := none') (by exact modC (Mod.refl _ _)) (fun _ _ _ => id)) _ 1 (entC ((d, nn), i)) (by rfl) (src_ent _ _ Tryz.underlying101 _ ((d, nn), i) 155 (heap_alloc_new _ _) _) (by omega) (by omega) ?_
            intro a7 cap7 w7 hg7 hM7 hz7
            have hB7 : Below w5.heap.size w5 w7 := Below.trans (show Below w5.heap.size w5 _ from by
              have hB6 := hMW6.below
              exact belC hB6) (hM7.below_at (by first | exact hz6' | (simp only [World.size_alloc]; exact Nat.le_trans hz6' (by omega)) | (simp; omega)) (fun j hj e => by
              rcases e with e | e
              · exact e
              · simp at e; omega))
            have hMW7 : Mod none' w5 w7 := Mod.of_below hB7
            have hz7' := hB7.size
            have hbl7 : b < w7.heap.size := Nat.lt_of_lt_of_le hbl5 hz7'
            have s0 := below_at hB7 q0 hbl5
            have s1 := below_at hB7 p0 hxl5
            have s2 := below_at hB7 p1 hxl5
            have s3 := below_at hB7 p2 hxl5
            try go_wp2_with fail
            refine hK.out _ _ ⟨s0, s1, s2, s3⟩ (fun hHeld => ?_)
            clear hK K
            try simp only [Act.put, List.setIfInBounds_toArray, List.set_cons_zero, List.set_cons_succ]
            refine anyX_ready (rs := [18]) (by kernel_rfl) (by simp) ?_
            refine anyX_cons (o := ?_) ?_ (fun K hK => ?_) ?_
            rotate_left 1
            · simp only [List.getElem?_toArray, List.getElem?_cons_succ, List.getElem?_cons_zero]; rfl
            rotate_left 1
            · exact anyX_nil
            refine step_append_g (by rfl) (.tmp 73) (.tmp 79) 101 101 (by rfl) 155 j0 _ 32 Tryz.underlying101 hi hy0 hy1 hy2 (by rfl) (by rfl) (hg7.mod (F := none') (by exact modC (Mod.refl _ _)) (fun _ _ _ => id)) _ (L.length - k) (entCells (L.drop k)) (by rfl) (HS.out _ (hMB5.out.trans (Mod.trans hMW7 (by exact modC (Mod.refl _ _))))).2 (by omega) (by omega) ?_
            intro a8 cap8 w8 hg8 hM8 hz8
            have hB8 : Below w5.heap.size w5 w8 := Below.trans (show Below w5.heap.size w5 _ from by
              have hB7' := hMW7.below
              exact belC hB7') (hM8.below_at (by first | exact hz7' | (simp only [World.size_alloc]; exact Nat.le_trans hz7' (by omega)) | (simp; omega)) (fun j hj e => by
              rcases e with (e | e) | e
              · exact e
              · first
                  | omega
                  | (simp at e; omega)
              · first
                  | omega
                  | (simp at e; omega)))
            have c08 := below_at hB8 q0 hbl5
            have f08 := (hB8.frozen (p := ⟨b, 0, none⟩) hbl5).trans g0
            try go_wp2_with fail
            refine hK.out _ _ ⟨c08, below_at hB8 p0 hxl5, below_at hB8 p1 hxl5, below_at hB8 p2 hxl5⟩ (fun hHeld => ?_)
            clear hK K
            try simp only [Act.put, List.setIfInBounds_toArray, List.set_cons_zero, List.set_cons_succ]
            refine anyX_ready (rs := [19]) (by kernel_rfl) (by simp) ?_
            refine anyX_cons (o := ?_) ?_ (fun K hK => ?_) ?_
            rotate_left 1
            · simp only [List.getElem?_toArray, List.getElem?_cons_succ, List.getElem?_cons_zero]; rfl
            rotate_left 1
            · exact anyX_nil
            go_simp
            try go_wp2_with fail
            refine hK.out _ _ hHeld (fun hHeld => ?_)
            clear hK K
            try simp only [Act.put, List.setIfInBounds_toArray, List.set_cons_zero, List.set_cons_succ]
            refine takeX 20 ?_
            refine anyX_ready (rs := [21]) (by kernel_rfl) (by simp) ?_
            refine anyX_last (o := ?_) ?_ (fun K hK => ?_)
            rotate_left 1
            · simp only [List.getElem?_toArray, List.getElem?_cons_succ, List.getElem?_cons_zero]; rfl
            go_simp
            refine hK.out _ _ (anyX_done (by kernel_rfl) ?_ _)
            clear hK K
            have hgE : GRowAt w8 (From w1.heap.size) 3 (k + 1 + (L.length - k)) cap8 a8 (entCells (L.take k ++ ((d, nn), i) :: L.drop k)) := by
              rw [entCells_app, show entCells (((d, nn), i) :: L.drop k) = entC ((d, nn), i) ++ entCells (L.drop k) from rfl, ← List.append_assoc]
              exact hg8.sub (T := From w1.heap.size) (fun j _ hj => by
                show w1.heap.size ≤ j
                have h5 := HB5.out.size
                rcases hj with ((hj | hj) | hj) | hj
                · exact hj.elim
                · first
                    | omega
                    | (simp at hj; omega)
                · first
                    | omega
                    | (simp at hj; omega)
                · first
                    | omega
                    | (simp at hj; omega))
            obtain ⟨hS9, hMS9⟩ := H.out.setRow (HB5.out.trans (hB8.mono HB5.out.size)) hgE (by rw [List.length_append, List.length_cons, List.length_take, List.length_drop]; have := HKL.out; omega)
            have HS9 := Lib.hid hS9
            have HM9 := Lib.hid hMS9
            clear hgE hg8 hM8 hB8 hg7 hM7 hB7 hMW7 hg6 hM6 hMW6 hS9 hMS9
            go_wp2_with fail
            go_ret
            exact ⟨k, HINS.out, rfl, HS9.out, HM9.out⟩
          · skip
            refine anyX_cons (o := ?_) ?_ (fun K hK => ?_) ?_
            rotate_left 1
            · simp only [List.getElem?_toArray, List.getElem?_cons_succ, List.getElem?_cons_zero]; rfl
            rotate_left 1
            · exact anyX_nil
            go_simp
            try go_wp2_with fail
            refine hK.out _ _ ⟨by go_simp, by go_simp, by go_simp, by go_simp⟩ (fun hHeld => ?_)
            clear hK K
            try simp only [Act.put, List.setIfInBounds_toArray, List.set_cons_zero, List.set_cons_succ]
            refine anyX_ready (rs := [8]) (by kernel_rfl) (by simp) ?_
            refine anyX_cons (o := ?_) ?_ (fun K hK => ?_) ?_
            rotate_left 1
            · simp only [List.getElem?_toArray, List.getElem?_cons_succ, List.getElem?_cons_zero]; rfl
            rotate_left 1
            · exact anyX_nil
            refine step_append_g (by rfl) (.tmp 63) (.tmp 69) 101 101 (by rfl) 155 j0 _ 32 Tryz.underlying101 hi hy0 hy1 hy2 (by rfl) (by rfl) (GRowAt.nil _ none' 3 _) _ k (entCells (L.take k)) (by rfl) (HS.out _ (hMB5.out.trans (by exact modC (Mod.refl _ _)))).1 (by omega) (by omega) ?_
            intro a6 cap6 w6 hg6 hM6 hz6
            simp only [Nat.zero_add, List.nil_append] at hg6
            have hMW6 : Mod none' w5 w6 := Mod.trans (by exact modC (Mod.refl _ _)) hM6
            have hz6' := hMW6.size
            have hbl6 : b < w6.heap.size := Nat.lt_of_lt_of_le hbl5 hMW6.size
            have hxl6 : xb < w6.heap.size := Nat.lt_of_lt_of_le hxl5 hMW6.size
            have r0 := hMW6.at q0 id
            have r1 := hMW6.at p0 id
            have r2 := hMW6.at p1 id
            have r3 := hMW6.at p2 id
            try go_wp2_with fail
            refine hK.out _ _ ⟨r0, r1, r2, r3⟩ (fun hHeld => ?_)
            clear hK K
            try simp only [Act.put, List.setIfInBounds_toArray, List.set_cons_zero, List.set_cons_succ]
            refine anyX_ready (rs := [11]) (by kernel_rfl) (by simp) ?_
            refine anyX_cons (o := ?_) ?_ (fun K hK => ?_) ?_
            rotate_left 1
            · simp only [List.getElem?_toArray, List.getElem?_cons_succ, List.getElem?_cons_zero]; rfl
            rotate_left 1
            · exact anyX_nil
            refine step_append_g (by rfl) (.tmp 70) (.tmp 72) 101 101 (by rfl) 155 j0 _ 32 Tryz.underlying101 hi hy0 hy1 hy2 (by rfl) (by rfl) (hg6.mod (F := none') (by exact modC (Mod.refl _ _)) (fun _ _ _ => id)) _ 1 (entC ((d, nn), i)) (by rfl) (src_ent _ _ Tryz.underlying101 _ ((d, nn), i) 155 ((hM6.block _ (twoLt _ _ _).2 id).trans (heapTwoLast _ _ _)) _) (by omega) (by omega) ?_
            intro a7 cap7 w7 hg7 hM7 hz7
            have hB7 : Below w5.heap.size w5 w7 := Below.trans (show Below w5.heap.size w5 _ from by
              have hB6 := hMW6.below
              exact belC hB6) (hM7.below_at (by first | exact hz6' | (simp only [World.size_alloc]; exact Nat.le_trans hz6' (by omega)) | (simp; omega)) (fun j hj e => by
              rcases e with e | e
              · exact e
              · simp at e; omega))
            have hMW7 : Mod none' w5 w7 := Mod.of_below hB7
            have hz7' := hB7.size
            have hbl7 : b < w7.heap.size := Nat.lt_of_lt_of_le hbl5 hz7'
            have s0 := below_at hB7 q0 hbl5
            have s1 := below_at hB7 p0 hxl5
            have s2 := below_at hB7 p1 hxl5
            have s3 := below_at hB7 p2 hxl5
            try go_wp2_with fail
            refine hK.out _ _ ⟨s0, s1, s2, s3⟩ (fun hHeld => ?_)
            clear hK K
            try simp only [Act.put, List.setIfInBounds_toArray, List.set_cons_zero, List.set_cons_succ]
            refine anyX_ready (rs := [18]) (by kernel_rfl) (by simp) ?_
            refine anyX_cons (o := ?_) ?_ (fun K hK => ?_) ?_
            rotate_left 1
            · simp only [List.getElem?_toArray, List.getElem?_cons_succ, List.getElem?_cons_zero]; rfl
            rotate_left 1
            · exact anyX_nil
            refine step_append_g (by rfl) (.tmp 73) (.tmp 79) 101 101 (by rfl) 155 j0 _ 32 Tryz.underlying101 hi hy0 hy1 hy2 (by rfl) (by rfl) (hg7.mod (F := none') (by exact modC (Mod.refl _ _)) (fun _ _ _ => id)) _ (L.length - k) (entCells (L.drop k)) (by rfl) (HS.out _ (hMB5.out.trans (Mod.trans hMW7 (by exact modC (Mod.refl _ _))))).2 (by omega) (by omega) ?_
            intro a8 cap8 w8 hg8 hM8 hz8
            have hB8 : Below w5.heap.size w5 w8 := Below.trans (show Below w5.heap.size w5 _ from by
              have hB7' := hMW7.below
              exact belC hB7') (hM8.below_at (by first | exact hz7' | (simp only [World.size_alloc]; exact Nat.le_trans hz7' (by omega)) | (simp; omega)) (fun j hj e => by
              rcases e with (e | e) | e
              · exact e
              · first
                  | omega
                  | (simp at e; omega)
              · first
                  | omega
                  | (simp at e; omega)))
            have c08 := below_at hB8 q0 hbl5
            have f08 := (hB8.frozen (p := ⟨b, 0, none⟩) hbl5).trans g0
            try go_wp2_with fail
            refine hK.out _ _ ⟨c08, below_at hB8 p0 hxl5, below_at hB8 p1 hxl5, below_at hB8 p2 hxl5⟩ (fun hHeld => ?_)
            clear hK K
            try simp only [Act.put, List.setIfInBounds_toArray, List.set_cons_zero, List.set_cons_succ]
            refine anyX_ready (rs := [19]) (by kernel_rfl) (by simp) ?_
            refine anyX_cons (o := ?_) ?_ (fun K hK => ?_) ?_
            rotate_left 1
            · simp only [List.getElem?_toArray, List.getElem?_cons_succ, List.getElem?_cons_zero]; rfl
            rotate_left 1
            · exact anyX_nil
            go_simp
            try go_wp2_with fail
            refine hK.out _ _ hHeld (fun hHeld => ?_)
            clear hK K
            try simp only [Act.put, List.setIfInBounds_toArray, List.set_cons_zero, List.set_cons_succ]
            refine takeX 20 ?_
            refine anyX_ready (rs := [21]) (by kernel_rfl) (by simp) ?_
            refine anyX_last (o := ?_) ?_ (fun K hK => ?_)
            rotate_left 1
            · simp only [List.getElem?_toArray, List.getElem?_cons_succ, List.getElem?_cons_zero]; rfl
            go_simp
            refine hK.out _ _ (anyX_done (by kernel_rfl) ?_ _)
            clear hK K
            have hgE : GRowAt w8 (From w1.heap.size) 3 (k + 1 + (L.length - k)) cap8 a8 (entCells (L.take k ++ ((d, nn), i) :: L.drop k)) := by
              rw [entCells_app, show entCells (((d, nn), i) :: L.drop k) = entC ((d, nn), i) ++ entCells (L.drop k) from rfl, ← List.append_assoc]
              exact hg8.sub (T := From w1.heap.size) (fun j _ hj => by
                show w1.heap.size ≤ j
                have h5 := HB5.out.size
                rcases hj with ((hj | hj) | hj) | hj
                · exact hj.elim
                · first
                    | omega
                    | (simp at hj; omega)
                · first
                    | omega
                    | (simp at hj; omega)
                · first
                    | omega
                    | (simp at hj; omega))
            obtain ⟨hS9, hMS9⟩ := H.out.setRow (HB5.out.trans (hB8.mono HB5.out.size)) hgE (by rw [List.length_append, List.length_cons, List.length_take, List.length_drop]; have := HKL.out; omega)
            have HS9 := Lib.hid hS9
            have HM9 := Lib.hid hMS9
            clear hgE hg8 hM8 hB8 hg7 hM7 hB7 hMW7 hg6 hM6 hMW6 hS9 hMS9
            go_wp2_with fail
            go_ret
            exact ⟨k, HINS.out, rfl, HS9.out, HM9.out⟩
        · skip
          refine anyX_cons (o := ?_) ?_ (fun K hK => ?_) ?_
          rotate_left 1
          · simp only [List.getElem?_toArray, List.getElem?_cons_succ, List.getElem?_cons_zero]; rfl
          rotate_left 1
          · exact anyX_nil
          go_simp
          try go_wp2_with fail
          refine hK.out _ _ ⟨by go_simp, by go_simp, by go_simp, by go_simp⟩ (fun hHeld => ?_)
          clear hK K
          try simp only [Act.put, List.setIfInBounds_toArray, List.set_cons_zero, List.set_cons_succ]
          refine anyX_ready (rs := [1]) (by kernel_rfl) (by simp) ?_
          refine anyX_cons (o := ?_) ?_ (fun K hK => ?_) ?_
          rotate_left 1
          · simp only [List.getElem?_toArray, List.getElem?_cons_succ, List.getElem?_cons_zero]; rfl
          rotate_left 1
          · exact anyX_nil
          go_simp
          try go_wp2_with fail
          refine hK.out _ _ ⟨by go_simp, by go_simp, by go_simp, by go_simp⟩ (fun hHeld => ?_)
          clear hK K
          try simp only [Act.put, List.setIfInBounds_toArray, List.set_cons_zero, List.set_cons_succ]
          refine anyX_ready (rs := [8]) (by kernel_rfl) (by simp) ?_
          refine anyX_cons (o := ?_) ?_ (fun K hK => ?_) ?_
          rotate_left 1
          · simp only [List.getElem?_toArray, List.getElem?_cons_succ, List.getElem?_cons_zero]; rfl
          rotate_left 1
          · exact anyX_nil
          refine step_append_g (by rfl) (.tmp 63) (.tmp 69) 101 101 (by rfl) 155 j0 _ 32 Tryz.underlying101 hi hy0 hy1 hy2 (by rfl) (by rfl) (GRowAt.nil _ none' 3 _) _ k (entCells (L.take k)) (by rfl) (HS.out _ (hMB5.out.trans (by exact modC (Mod.refl _ _)))).1 (by omega) (by omega) ?_
          intro a6 cap6 w6 hg6 hM6 hz6
          simp only [Nat.zero_add, List.nil_append] at hg6
          have hMW6 : Mod none' w5 w6 := Mod.trans (by exact modC (Mod.refl _ _)) hM6
          have hz6' := hMW6.size
          have hbl6 : b < w6.heap.size := Nat.lt_of_lt_of_le hbl5 hMW6.size
          have hxl6 : xb < w6.heap.size := Nat.lt_of_lt_of_le hxl5 hMW6.size
          have r0 := hMW6.at q0 id
          have r1 := hMW6.at p0 id
          have r2 := hMW6.at p1 id
          have r3 := hMW6.at p2 id
          try go_wp2_with fail
          refine hK.out _ _ ⟨r0, r1, r2, r3⟩ (fun hHeld => ?_)
          clear hK K
          try simp only [Act.put, List.setIfInBounds_toArray, List.set_cons_zero, List.set_cons_succ]
          refine anyX_ready (rs := [11]) (by kernel_rfl) (by simp) ?_
          refine anyX_cons (o := ?_) ?_ (fun K hK => ?_) ?_
          rotate_left 1
          · simp only [List.getElem?_toArray, List.getElem?_cons_succ, List.getElem?_cons_zero]; rfl
          rotate_left 1
          · exact anyX_nil
          refine step_append_g (by rfl) (.tmp 70) (.tmp 72) 101 101 (by rfl) 155 j0 _ 32 Tryz.underlying101 hi hy0 hy1 hy2 (by rfl) (by rfl) (hg6.mod (F := none') (by exact modC (Mod.refl _ _)) (fun _ _ _ => id)) _ 1 (entC ((d, nn), i)) (by rfl) (src_ent _ _ Tryz.underlying101 _ ((d, nn), i) 155 ((hM6.block _ (twoLt _ _ _).1 id).trans (heapTwoFirst _ _ _)) _) (by omega) (by omega) ?_
          intro a7 cap7 w7 hg7 hM7 hz7
          have hB7 : Below w5.heap.size w5 w7 := Below.trans (show Below w5.heap.size w5 _ from by
            have hB6 := hMW6.below
            exact belC hB6) (hM7.below_at (by first | exact hz6' | (simp only [World.size_alloc]; exact Nat.le_trans hz6' (by omega)) | (simp; omega)) (fun j hj e => by
            rcases e with e | e
            · exact e
            · simp at e; omega))
          have hMW7 : Mod none' w5 w7 := Mod.of_below hB7
          have hz7' := hB7.size
          have hbl7 : b < w7.heap.size := Nat.lt_of_lt_of_le hbl5 hz7'
          have s0 := below_at hB7 q0 hbl5
          have s1 := below_at hB7 p0 hxl5
          have s2 := below_at hB7 p1 hxl5
          have s3 := below_at hB7 p2 hxl5
          try go_wp2_with fail
          refine hK.out _ _ ⟨s0, s1, s2, s3⟩ (fun hHeld => ?_)
          clear hK K
          try simp only [Act.put, List.setIfInBounds_toArray, List.set_cons_zero, List.set_cons_succ]
          refine anyX_ready (rs := [18]) (by kernel_rfl) (by simp) ?_
          refine anyX_cons (o := ?_) ?_ (fun K hK => ?_) ?_
          rotate_left 1
          · simp only [List.getElem?_toArray, List.getElem?_cons_succ, List.getElem?_cons_zero]; rfl
          rotate_left 1
          · exact anyX_nil
          refine step_append_g (by rfl) (.tmp 73) (.tmp 79) 101 101 (by rfl) 155 j0 _ 32 Tryz.underlying101 hi hy0 hy1 hy2 (by rfl) (by rfl) (hg7.mod (F := none') (by exact modC (Mod.refl _ _)) (fun _ _ _ => id)) _ (L.length - k) (entCells (L.drop k)) (by rfl) (HS.out _ (hMB5.out.trans (Mod.trans hMW7 (by exact modC (Mod.refl _ _))))).2 (by omega) (by omega) ?_
          intro a8 cap8 w8 hg8 hM8 hz8
          have hB8 : Below w5.heap.size w5 w8 := Below.trans (show Below w5.heap.size w5 _ from by
            have hB7' := hMW7.below
            exact belC hB7') (hM8.below_at (by first | exact hz7' | (simp only [World.size_alloc]; exact Nat.le_trans hz7' (by omega)) | (simp; omega)) (fun j hj e => by
            rcases e with (e | e) | e
            · exact e
            · first
                | omega
                | (simp at e; omega)
            · first
                | omega
                | (simp at e; omega)))
          have c08 := below_at hB8 q0 hbl5
          have f08 := (hB8.frozen (p := ⟨b, 0, none⟩) hbl5).trans g0
          try go_wp2_with fail
          refine hK.out _ _ ⟨c08, below_at hB8 p0 hxl5, below_at hB8 p1 hxl5, below_at hB8 p2 hxl5⟩ (fun hHeld => ?_)
          clear hK K
          try simp only [Act.put, List.setIfInBounds_toArray, List.set_cons_zero, List.set_cons_succ]
          refine anyX_ready (rs := [19]) (by kernel_rfl) (by simp) ?_
          refine anyX_cons (o := ?_) ?_ (fun K hK => ?_) ?_
          rotate_left 1
          · simp only [List.getElem?_toArray, List.getElem?_cons_succ, List.getElem?_cons_zero]; rfl
          rotate_left 1
          · exact anyX_nil
          go_simp
          try go_wp2_with fail
          refine hK.out _ _ hHeld (fun hHeld => ?_)
          clear hK K
          try simp only [Act.put, List.setIfInBounds_toArray, List.set_cons_zero, List.set_cons_succ]
          refine takeX 20 ?_
          refine anyX_ready (rs := [21]) (by kernel_rfl) (by simp) ?_
          refine anyX_last (o := ?_) ?_ (fun K hK => ?_)
          rotate_left 1
          · simp only [List.getElem?_toArray, List.getElem?_cons_succ, List.getElem?_cons_zero]; rfl
          go_simp
          refine hK.out _ _ (anyX_done (by kernel_rfl) ?_ _)
          clear hK K
          have hgE : GRowAt w8 (From w1.heap.size) 3 (k + 1 + (L.length - k)) cap8 a8 (entCells (L.take k ++ ((d, nn), i) :: L.drop k)) := by
            rw [entCells_app, show entCells (((d, nn), i) :: L.drop k) = entC ((d, nn), i) ++ entCells (L.drop k) from rfl, ← List.append_assoc]
            exact hg8.sub (T := From w1.heap.size) (fun j _ hj => by
              show w1.heap.size ≤ j
              have h5 := HB5.out.size
              rcases hj with ((hj | hj) | hj) | hj
              · exact hj.elim
              · first
                  | omega
                  | (simp at hj; omega)
              · first
                  | omega
                  | (simp at hj; omega)
              · first
                  | omega
                  | (simp at hj; omega))
          obtain ⟨hS9, hMS9⟩ := H.out.setRow (HB5.out.trans (hB8.mono HB5.out.size)) hgE (by rw [List.length_append, List.length_cons, List.length_take, List.length_drop]; have := HKL.out; omega)
          have HS9 := Lib.hid hS9
          have HM9 := Lib.hid hMS9
          clear hgE hg8 hM8 hB8 hg7 hM7 hB7 hMW7 hg6 hM6 hMW6 hS9 hMS9
          go_wp2_with fail
          go_ret
          exact ⟨k, HINS.out, rfl, HS9.out, HM9.out⟩
      · have hc0 : cap = 0 := by omega
        have hL0 : L.length = 0 := by omega
        have hk0 : k = 0 := by have := HkL.out; omega
        have hLn : L = [] := List.length_eq_zero_iff.1 hL0
        have Hc0 := Lib.hid hc0
        have HL0 := Lib.hid hL0
        have Hk0 := Lib.hid hk0
        cases ao with
        | none =>
          have hs1 : ∀ W, (Instr.slice 101 (.slice none L.length cap) none (some (.int .i64 (k : Int))) none).run Tryz.prog W = .ok (.slice none 0 0) W := fun W => by
            rw [hk0, hL0, hc0]
            go_simp
          have hs2 : ∀ W, (Instr.slice 101 (.slice none L.length cap) (some (.int .i64 (k : Int))) none none).run Tryz.prog W = .ok (.slice none 0 0) W := fun W => by
            rw [hk0, hL0, hc0]
            go_simp
          have HS : Hid (∀ W, Mod none' w1 W → Src Tryz.prog 3 101 (.slice none 0 0) k (entCells (L.take k)) W ∧ Src Tryz.prog 3 101 (.slice none 0 0) (L.length - k) (entCells (L.drop k)) W) := Lib.hid (fun W hM => by
            rw [hk0, hL0, hLn]
            exact ⟨Src.ofNil W Tryz.underlying101 0, Src.ofNil W Tryz.underlying101 0⟩)
          clear hLn hcap hc0 hL0 hk0
          have hbl5 := cell_lt q0
          have hxl5 := cell_lt p0
          have g0 := (HB5.out.frozen (p := ⟨b, 0, none⟩) hbl).trans f0
          have hMB5 := Lib.hid (Mod.of_below (F := none') HB5.out)
          have hnL : L.length ≤ 100000 := Hl.out
          refine anyX_begin 21 (fun W' => W'.cell? ⟨b, 0, none⟩ = some (.slice none L.length cap) ∧ W'.cell? ⟨xb, 0, none⟩ = some (.int .i64 d) ∧ W'.cell? ⟨xb, 1, none⟩ = some (.string (bs nn)) ∧ W'.cell? ⟨xb, 2, none⟩ = some (.int .i64 i)) (by kernel_rfl) ⟨q0, p0, p1, p2⟩ (fun hHeld => ?_)
          refine takeX 0 ?_
          refine takeX 2 ?_
          refine takeX 3 ?_
          refine takeX 4 ?_
          refine takeX 5 ?_
          refine takeX 6 ?_
          refine takeX 7 ?_
          refine takeX 9 ?_
          refine takeX 12 ?_
          refine takeX 13 ?_
          refine takeX 14 ?_
          refine takeX 15 ?_
          refine takeX 16 ?_
          refine takeX 17 ?_
          refine anyX_ready (rs := [1, 10]) (by kernel_rfl) (by simp) ?_
          refine anyX_cons (o := ?_) ?_ (fun K hK => ?_) ?_
          rotate_left 1
          · simp only [List.getElem?_toArray, List.getElem?_cons_succ, List.getElem?_cons_zero]; rfl
          · skip
            go_simp
            try go_wp2_with fail
            refine hK.out _ _ ⟨by go_simp, by go_simp, by go_simp, by go_simp⟩ (fun hHeld => ?_)
            clear hK K
            try simp only [Act.put, List.setIfInBounds_toArray, List.set_cons_zero, List.set_cons_succ]
            refine anyX_ready (rs := [8, 10]) (by kernel_rfl) (by simp) ?_
            refine anyX_cons (o := ?_) ?_ (fun K hK => ?_) ?_
            rotate_left 1
            · simp only [List.getElem?_toArray, List.getElem?_cons_succ, List.getElem?_cons_zero]; rfl
            · skip
              refine step_append_g (by rfl) (.tmp 63) (.tmp 69) 101 101 (by rfl) 155 j0 _ 32 Tryz.underlying101 hi hy0 hy1 hy2 (by rfl) (by rfl) (GRowAt.nil _ none' 3 _) _ k (entCells (L.take k)) (by rfl) (HS.out _ (hMB5.out.trans (by exact modC (Mod.refl _ _)))).1 (by omega) (by omega) ?_
              intro a6 cap6 w6 hg6 hM6 hz6
              simp only [Nat.zero_add, List.nil_append] at hg6
              have hMW6 : Mod none' w5 w6 := Mod.trans (by exact modC (Mod.refl _ _)) hM6
              have hz6' := hMW6.size
              have hbl6 : b < w6.heap.size := Nat.lt_of_lt_of_le hbl5 hMW6.size
              have hxl6 : xb < w6.heap.size := Nat.lt_of_lt_of_le hxl5 hMW6.size
              have r0 := hMW6.at q0 id
              have r1 := hMW6.at p0 id
              have r2 := hMW6.at p1 id
              have r3 := hMW6.at p2 id
              try go_wp2_with fail
              refine hK.out _ _ ⟨r0, r1, r2, r3⟩ (fun hHeld => ?_)
              clear hK K
              try simp only [Act.put, List.setIfInBounds_toArray, List.set_cons_zero, List.set_cons_succ]
              refine anyX_ready (rs := [10]) (by kernel_rfl) (by simp) ?_
              refine anyX_cons (o := ?_) ?_ (fun K hK => ?_) ?_
              rotate_left 1
              · simp only [List.getElem?_toArray, List.getElem?_cons_succ, List.getElem?_cons_zero]; rfl
              rotate_left 1
              · exact anyX_nil
              go_simp
              try go_wp2_with fail
              refine hK.out _ _ ⟨by go_simp, by go_simp, by go_simp, by go_simp⟩ (fun hHeld => ?_)
              clear hK K
              try simp only [Act.put, List.setIfInBounds_toArray, List.set_cons_zero, List.set_cons_succ]
              refine anyX_ready (rs := [11]) (by kernel_rfl) (by simp) ?_
              refine anyX_cons (o := ?_) ?_ (fun K hK => ?_) ?_
              rotate_left 1
              · simp only [List.getElem?_toArray, List.getElem?_cons_succ, List.getElem?_cons_zero]; rfl
              rotate_left 1
              · exact anyX_nil
              refine step_append_g (by rfl) (.tmp 70) (.tmp 72) 101 101 (by rfl) 155 j0 _ 32 Tryz.underlying101 hi hy0 hy1 hy2 (by rfl) (by rfl) (hg6.mod (F := none') (by exact modC (Mod.refl _ _)) (fun _ _ _ => id)) _ 1 (entC ((d, nn), i)) (by rfl) (src_ent _ _ Tryz.underlying101 _ ((d, nn), i) 155 (heap_alloc_new _ _) _) (by omega) (by omega) ?_
              intro a7 cap7 w7 hg7 hM7 hz7
              have hB7 : Below w5.heap.size w5 w7 := Below.trans (show Below w5.heap.size w5 _ from by
                have hB6 := hMW6.below
                exact belC hB6) (hM7.below_at (by first | exact hz6' | (simp only [World.size_alloc]; exact Nat.le_trans hz6' (by omega)) | (simp; omega)) (fun j hj e => by
                rcases e with e | e
                · exact e
                · simp at e; omega))
              have hMW7 : Mod none' w5 w7 := Mod.of_below hB7
              have hz7' := hB7.size
              have hbl7 : b < w7.heap.size := Nat.lt_of_lt_of_le hbl5 hz7'
              have s0 := below_at hB7 q0 hbl5
              have s1 := below_at hB7 p0 hxl5
              have s2 := below_at hB7 p1 hxl5
              have s3 := below_at hB7 p2 hxl5
              try go_wp2_with fail
              refine hK.out _ _ ⟨s0, s1, s2, s3⟩ (fun hHeld => ?_)
              clear hK K
              try simp only [Act.put, List.setIfInBounds_toArray, List.set_cons_zero, List.set_cons_succ]
              refine anyX_ready (rs := [18]) (by kernel_rfl) (by simp) ?_
              refine anyX_cons (o := ?_) ?_ (fun K hK => ?_) ?_
              rotate_left 1
              · simp only [List.getElem?_toArray, List.getElem?_cons_succ, List.getElem?_cons_zero]; rfl
              rotate_left 1
              · exact anyX_nil
              refine step_append_g (by rfl) (.tmp 73) (.tmp 79) 101 101 (by rfl) 155 j0 _ 32 Tryz.underlying101 hi hy0 hy1 hy2 (by rfl) (by rfl) (hg7.mod (F := none') (by exact modC (Mod.refl _ _)) (fun _ _ _ => id)) _ (L.length - k) (entCells (L.drop k)) (by rfl) (HS.out _ (hMB5.out.trans (Mod.trans hMW7 (by exact modC (Mod.refl _ _))))).2 (by omega) (by omega) ?_
              intro a8 cap8 w8 hg8 hM8 hz8
              have hB8 : Below w5.heap.size w5 w8 := Below.trans (show Below w5.heap.size w5 _ from by
                have hB7' := hMW7.below
                exact belC hB7') (hM8.below_at (by first | exact hz7' | (simp only [World.size_alloc]; exact Nat.le_trans hz7' (by omega)) | (simp; omega)) (fun j hj e => by
                rcases e with (e | e) | e
                · exact e
                · first
                    | omega
                    | (simp at e; omega)
                · first
                    | omega
                    | (simp at e; omega)))
              have c08 := below_at hB8 q0 hbl5
              have f08 := (hB8.frozen (p := ⟨b, 0, none⟩) hbl5).trans g0
              try go_wp2_with fail
              refine hK.out _ _ ⟨c08, below_at hB8 p0 hxl5, below_at hB8 p1 hxl5, below_at hB8 p2 hxl5⟩ (fun hHeld => ?_)
              clear hK K
              try simp only [Act.put, List.setIfInBounds_toArray, List.set_cons_zero, List.set_cons_succ]
              refine anyX_ready (rs := [19]) (by kernel_rfl) (by simp) ?_
              refine anyX_cons (o := ?_) ?_ (fun K hK => ?_) ?_
              rotate_left 1
              · simp only [List.getElem?_toArray, List.getElem?_cons_succ, List.getElem?_cons_zero]; rfl
              rotate_left 1
              · exact anyX_nil
              go_simp
              try go_wp2_with fail
              refine hK.out _ _ hHeld (fun hHeld => ?_)
              clear hK K
              try simp only [Act.put, List.setIfInBounds_toArray, List.set_cons_zero, List.set_cons_succ]
              refine takeX 20 ?_
              refine anyX_ready (rs := [21]) (by kernel_rfl) (by simp) ?_
              refine anyX_last (o := ?_) ?_ (fun K hK => ?_)
              rotate_left 1
              · simp only [List.getElem?_toArray, List.getElem?_cons_succ, List.getElem?_cons_zero]; rfl
              go_simp
              refine hK.out _ _ (anyX_done (by kernel_rfl) ?_ _)
              clear hK K
              have hgE : GRowAt w8 (From w1.heap.size) 3 (k + 1 + (L.length - k)) cap8 a8 (entCells (L.take k ++ ((d, nn), i) :: L.drop k)) := by
                rw [entCells_app, show entCells (((d, nn), i) :: L.drop k) = entC ((d, nn), i) ++ entCells (L.drop k) from rfl, ← List.append_assoc]
                exact hg8.sub (T := From w1.heap.size) (fun j _ hj => by
                  show w1.heap.size ≤ j
                  have h5 := HB5.out.size
                  rcases hj with ((hj | hj) | hj) | hj
                  · exact hj.elim
                  · first
                      | omega
                      | (simp at hj; omega)
                  · first
                      | omega
                      | (simp at hj; omega)
                  · first
                      | omega
                      | (simp at hj; omega))
              obtain ⟨hS9, hMS9⟩ := H.out.setRow (HB5.out.trans (hB8.mono HB5.out.size)) hgE (by rw [List.length_append, List.length_cons, List.length_take, List.length_drop]; have := HKL.out; omega)
              have HS9 := Lib.hid hS9
              have HM9 := Lib.hid hMS9
              clear hgE hg8 hM8 hB8 hg7 hM7 hB7 hMW7 hg6 hM6 hMW6 hS9 hMS9
              go_wp2_with fail
              go_ret
              exact ⟨k, HINS.out, rfl, HS9.out, HM9.out⟩
            · skip
              refine anyX_cons (o := ?_) ?_ (fun K hK => ?_) ?_
              rotate_left 1
              · simp only [List.getElem?_toArray, List.getElem?_cons_succ, List.getElem?_cons_zero]; rfl
              rotate_left 1
              · exact anyX_nil
              go_simp
              try go_wp2_with fail
              refine hK.out _ _ ⟨by go_simp, by go_simp, by go_simp, by go_simp⟩ (fun hHeld => ?_)
              clear hK K
              try simp only [Act.put, List.setIfInBounds_toArray, List.set_cons_zero, List.set_cons_succ]
              refine anyX_ready (rs := [8]) (by kernel_rfl) (by simp) ?_
              refine anyX_cons (o := ?_) ?_ (fun K hK => ?_) ?_
              rotate_left 1
              · simp only [List.getElem?_toArray, List.getElem?_cons_succ, List.getElem?_cons_zero]; rfl
              rotate_left 1
              · exact anyX_nil
              refine step_append_g (by rfl) (.tmp 63) (.tmp 69) 101 101 (by rfl) 155 j0 _ 32 Tryz.underlying101 hi hy0 hy1 hy2 (by rfl) (by rfl) (GRowAt.nil _ none' 3 _) _ k (entCells (L.take k)) (by rfl) (HS.out _ (hMB5.out.trans (by exact modC (Mod.refl _ _)))).1 (by omega) (by omega) ?_
              intro a6 cap6 w6 hg6 hM6 hz6
              simp only [Nat.zero_add, List.nil_append] at hg6
              have hMW6 : Mod none' w5 w6 := Mod.trans (by exact modC (Mod.refl _ _)) hM6
              have hz6' := hMW6.size
              have hbl6 : b < w6.heap.size := Nat.lt_of_lt_of_le hbl5 hMW6.size
              have hxl6 : xb < w6.heap.size := Nat.lt_of_lt_of_le hxl5 hMW6.size
              have r0 := hMW6.at q0 id
              have r1 := hMW6.at p0 id
              have r2 := hMW6.at p1 id
              have r3 := hMW6.at p2 id
              try go_wp2_with fail
              refine hK.out _ _ ⟨r0, r1, r2, r3⟩ (fun hHeld => ?_)
              clear hK K
              try simp only [Act.put, List.setIfInBounds_toArray, List.set_cons_zero, List.set_cons_succ]
              refine anyX_ready (rs := [11]) (by kernel_rfl) (by simp) ?_
              refine anyX_cons (o := ?_) ?_ (fun K hK => ?_) ?_
              rotate_left 1
              · simp only [List.getElem?_toArray, List.getElem?_cons_succ, List.getElem?_cons_zero]; rfl
              rotate_left 1
              · exact anyX_nil
              refine step_append_g (by rfl) (.tmp 70) (.tmp 72) 101 101 (by rfl) 155 j0 _ 32 Tryz.underlying101 hi hy0 hy1 hy2 (by rfl) (by rfl) (hg6.mod (F := none') (by exact modC (Mod.refl _ _)) (fun _ _ _ => id)) _ 1 (entC ((d, nn), i)) (by rfl) (src_ent _ _ Tryz.underlying101 _ ((d, nn), i) 155 ((hM6.block _ (twoLt _ _ _).2 id).trans (heapTwoLast _ _ _)) _) (by omega) (by omega) ?_
              intro a7 cap7 w7 hg7 hM7 hz7
              have hB7 : Below w5.heap.size w5 w7 := Below.trans (show Below w5.heap.size w5 _ from by
                have hB6 := hMW6.below
                exact belC hB6) (hM7.below_at (by first | exact hz6' | (simp only [World.size_alloc]; exact Nat.le_trans hz6' (by omega)) | (simp; omega)) (fun j hj e => by
                rcases e with e | e
                · exact e
                · simp at e; omega))
              have hMW7 : Mod none' w5 w7 := Mod.of_below hB7
              have hz7' := hB7.size
              have hbl7 : b < w7.heap.size := Nat.lt_of_lt_of_le hbl5 hz7'
              have s0 := below_at hB7 q0 hbl5
              have s1 := below_at hB7 p0 hxl5
              have s2 := below_at hB7 p1 hxl5
              have s3 := below_at hB7 p2 hxl5
              try go_wp2_with fail
              refine hK.out _ _ ⟨s0, s1, s2, s3⟩ (fun hHeld => ?_)
              clear hK K
              try simp only [Act.put, List.setIfInBounds_toArray, List.set_cons_zero, List.set_cons_succ]
              refine anyX_ready (rs := [18]) (by kernel_rfl) (by simp) ?_
              refine anyX_cons (o := ?_) ?_ (fun K hK => ?_) ?_
              rotate_left 1
              · simp only [List.getElem?_toArray, List.getElem?_cons_succ, List.getElem?_cons_zero]; rfl
              rotate_left 1
              · exact anyX_nil
              refine step_append_g (by rfl) (.tmp 73) (.tmp 79) 101 101 (by rfl) 155 j0 _ 32 Tryz.underlying101 hi hy0 hy1 hy2 (by rfl) (by rfl) (hg7.mod (F := none') (by exact modC (Mod.refl _ _)) (fun _ _ _ => id)) _ (L.length - k) (entCells (L.drop k)) (by rfl) (HS.out _ (hMB5.out.trans (Mod.trans hMW7 (by exact modC (Mod.refl _ _))))).2 (by omega) (by omega) ?_
              intro a8 cap8 w8 hg8 hM8 hz8
              have hB8 : Below w5.heap.size w5 w8 := Below.trans (show Below w5.heap.size w5 _ from by
                have hB7' := hMW7.below
                exact belC hB7') (hM8.below_at (by first | exact hz7' | (simp only [World.size_alloc]; exact Nat.le_trans hz7' (by omega)) | (simp; omega)) (fun j hj e => by
                rcases e with (e | e) | e
                · exact e
                · first
                    | omega
                    | (simp at e; omega)
                · first
                    | omega
                    | (simp at e; omega)))
              have c08 := below_at hB8 q0 hbl5
              have f08 := (hB8.frozen (p := ⟨b, 0, none⟩) hbl5).trans g0
              try go_wp2_with fail
              refine hK.out _ _ ⟨c08, below_at hB8 p0 hxl5, below_at hB8 p1 hxl5, below_at hB8 p2 hxl5⟩ (fun hHeld => ?_)
              clear hK K
              try simp only [Act.put, List.setIfInBounds_toArray, List.set_cons_zero, List.set_cons_succ]
              refine anyX_ready (rs := [19]) (by kernel_rfl) (by simp) ?_
              refine anyX_cons (o := ?_) ?_ (fun K hK => ?_) ?_
              rotate_left 1
              · simp only [List.getElem?_toArray, List.getElem?_cons_succ, List.getElem?_cons_zero]; rfl
              rotate_left 1
              · exact anyX_nil
              go_simp
              try go_wp2_with fail
              refine hK.out _ _ hHeld (fun hHeld => ?_)
              clear hK K
              try simp only [Act.put, List.setIfInBounds_toArray, List.set_cons_zero, List.set_cons_succ]
              refine takeX 20 ?_
              refine anyX_ready (rs := [21]) (by kernel_rfl) (by simp) ?_
              refine anyX_last (o := ?_) ?_ (fun K hK => ?_)
              rotate_left 1
              · simp only [List.getElem?_toArray, List.getElem?_cons_succ, List.getElem?_cons_zero]; rfl
              go_simp
              refine hK.out _ _ (anyX_done (by kernel_rfl) ?_ _)
              clear hK K
              have hgE : GRowAt w8 (From w1.heap.size) 3 (k + 1 + (L.length - k)) cap8 a8 (entCells (L.take k ++ ((d, nn), i) :: L.drop k)) := by
                rw [entCells_app, show entCells (((d, nn), i) :: L.drop k) = entC ((d, nn), i) ++ entCells (L.drop k) from rfl, ← List.append_assoc]
                exact hg8.sub (T := From w1.heap.size) (fun j _ hj => by
                  show w1.heap.size ≤ j
                  have h5 := HB5.out.size
                  rcases hj with ((hj | hj) | hj) | hj
                  · exact hj.elim
                  · first
                      | omega
                      | (simp at hj; omega)
                  · first
                      | omega
                      | (simp at hj; omega)
                  · first
                      | omega
                      | (simp at hj; omega))
              obtain ⟨hS9, hMS9⟩ := H.out.setRow (HB5.out.trans (hB8.mono HB5.out.size)) hgE (by rw [List.length_append, List.length_cons, List.length_take, List.length_drop]; have := HKL.out; omega)
              have HS9 := Lib.hid hS9
              have HM9 := Lib.hid hMS9
              clear hgE hg8 hM8 hB8 hg7 hM7 hB7 hMW7 hg6 hM6 hMW6 hS9 hMS9
              go_wp2_with fail
              go_ret
              exact ⟨k, HINS.out, rfl, HS9.out, HM9.out⟩
          · skip
            refine anyX_cons (o := ?_) ?_ (fun K hK => ?_) ?_
            rotate_left 1
            · simp only [List.getElem?_toArray, List.getElem?_cons_succ, List.getElem?_cons_zero]; rfl
            rotate_left 1
            · exact anyX_nil
            go_simp
            try go_wp2_with fail
            refine hK.out _ _ ⟨by go_simp, by go_simp, by go_simp, by go_simp⟩ (fun hHeld => ?_)
            clear hK K
            try simp only [Act.put, List.setIfInBounds_toArray, List.set_cons_zero, List.set_cons_succ]
            refine anyX_ready (rs := [1]) (by kernel_rfl) (by simp) ?_
            refine anyX_cons (o := ?_) ?_ (fun K hK => ?_) ?_
            rotate_left 1
            · simp only [List.getElem?_toArray, List.getElem?_cons_succ, List.getElem?_cons_zero]; rfl
            rotate_left 1
            · exact anyX_nil
            go_simp
            try go_wp2_with fail
            refine hK.out _ _ ⟨by go_simp, by go_simp, by go_simp, by go_simp⟩ (fun hHeld => ?_)
            clear hK K
            try simp only [Act.put, List.setIfInBounds_toArray, List.set_cons_zero, List.set_cons_succ]
            refine anyX_ready (rs := [8]) (by kernel_rfl) (by simp) ?_
            refine anyX_cons (o := ?_) ?_ (fun K hK => ?_) ?_
            rotate_left 1
            · simp only [List.getElem?_toArray, List.getElem?_cons_succ, List.getElem?_cons_zero]; rfl
            rotate_left 1
            · exact anyX_nil
            refine step_append_g (by rfl) (.tmp 63) (.tmp 69) 101 101 (by rfl) 155 j0 _ 32 Tryz.underlying101 hi hy0 hy1 hy2 (by rfl) (by rfl) (GRowAt.nil _ none' 3 _) _ k (entCells (L.take k)) (by rfl) (HS.out _ (hMB5.out.trans (by exact modC (Mod.refl _ _)))).1 (by omega) (by omega) ?_
            intro a6 cap6 w6 hg6 hM6 hz6
            simp only [Nat.zero_add, List.nil_append] at hg6
            have hMW6 : Mod none' w5 w6 := Mod.trans (by exact modC (Mod.refl _ _)) hM6
            have hz6' := hMW6.size
            have hbl6 : b < w6.heap.size := Nat.lt_of_lt_of_le hbl5 hMW6.size
            have hxl6 : xb < w6.heap.size := Nat.lt_of_lt_of_le hxl5 hMW6.size
            have r0 := hMW6.at q0 id
            have r1 := hMW6.at p0 id
            have r2 := hMW6.at p1 id
            have r3 := hMW6.at p2 id
            try go_wp2_with fail
            refine hK.out _ _ ⟨r0, r1, r2, r3⟩ (fun hHeld => ?_)
            clear hK K
            try simp only [Act.put, List.setIfInBounds_toArray, List.set_cons_zero, List.set_cons_succ]
            refine anyX_ready (rs := [11]) (by kernel_rfl) (by simp) ?_
            refine anyX_cons (o := ?_) ?_ (fun K hK => ?_) ?_
            rotate_left 1
            · simp only [List.getElem?_toArray, List.getElem?_cons_succ, List.getElem?_cons_zero]; rfl
            rotate_left 1
            · exact anyX_nil
            refine step_append_g (by rfl) (.tmp 70) (.tmp 72) 101 101 (by rfl) 155 j0 _ 32 Tryz.underlying101 hi hy0 hy1 hy2 (by rfl) (by rfl) (hg6.mod (F := none') (by exact modC (Mod.refl _ _)) (fun _ _ _ => id)) _ 1 (entC ((d, nn), i)) (by rfl) (src_ent _ _ Tryz.underlying101 _ ((d, nn), i) 155 ((hM6.block _ (twoLt _ _ _).1 id).trans (heapTwoFirst _ _ _)) _) (by omega) (by omega) ?_
            intro a7 cap7 w7 hg7 hM7 hz7
            have hB7 : Below w5.heap.size w5 w7 := Below.trans (show Below w5.heap.size w5 _ from by
              have hB6 := hMW6.below
              exact belC hB6) (hM7.below_at (by first | exact hz6' | (simp only [World.size_alloc]; exact Nat.le_trans hz6' (by omega)) | (simp; omega)) (fun j hj e => by
              rcases e with e | e
              · exact e
              · simp at e; omega))
            have hMW7 : Mod none' w5 w7 := Mod.of_below hB7
            have hz7' := hB7.size
            have hbl7 : b < w7.heap.size := Nat.lt_of_lt_of_le hbl5 hz7'
            have s0 := below_at hB7 q0 hbl5
            have s1 := below_at hB7 p0 hxl5
            have s2 := below_at hB7 p1 hxl5
            have s3 := below_at hB7 p2 hxl5
            try go_wp2_with fail
            refine hK.out _ _ ⟨s0, s1, s2, s3⟩ (fun hHeld => ?_)
            clear hK K
            try simp only [Act.put, List.setIfInBounds_toArray, List.set_cons_zero, List.set_cons_succ]
            refine anyX_ready (rs := [18]) (by kernel_rfl) (by simp) ?_
            refine anyX_cons (o := ?_) ?_ (fun K hK => ?_) ?_
            rotate_left 1
            · simp only [List.getElem?_toArray, List.getElem?_cons_succ, List.getElem?_cons_zero]; rfl
            rotate_left 1
            · exact anyX_nil
            refine step_append_g (by rfl) (.tmp 73) (.tmp 79) 101 101 (by rfl) 155 j0 _ 32 Tryz.underlying101 hi hy0 hy1 hy2 (by rfl) (by rfl) (hg7.mod (F := none') (by exact modC (Mod.refl _ _)) (fun _ _ _ => id)) _ (L.length - k) (entCells (L.drop k)) (by rfl) (HS.out _ (hMB5.out.trans (Mod.trans hMW7 (by exact modC (Mod.refl _ _))))).2 (by omega) (by omega) ?_
            intro a8 cap8 w8 hg8 hM8 hz8
            have hB8 : Below w5.heap.size w5 w8 := Below.trans (show Below w5.heap.size w5 _ from by
              have hB7' := hMW7.below
              exact belC hB7') (hM8.below_at (by first | exact hz7' | (simp only [World.size_alloc]; exact Nat.le_trans hz7' (by omega)) | (simp; omega)) (fun j hj e => by
              rcases e with (e | e) | e
              · exact e
              · first
                  | omega
                  | (simp at e; omega)
              · first
                  | omega
                  | (simp at e; omega)))
            have c08 := below_at hB8 q0 hbl5
            have f08 := (hB8.frozen (p := ⟨b, 0, none⟩) hbl5).trans g0
            try go_wp2_with fail
            refine hK.out _ _ ⟨c08, below_at hB8 p0 hxl5, below_at hB8 p1 hxl5, below_at hB8 p2 hxl5⟩ (fun hHeld => ?_)
            clear hK K
            try simp only [Act.put, List.setIfInBounds_toArray, List.set_cons_zero, List.set_cons_succ]
            refine anyX_ready (rs := [19]) (by kernel_rfl) (by simp) ?_
            refine anyX_cons (o := ?_) ?_ (fun K hK => ?_) ?_
            rotate_left 1
            · simp only [List.getElem?_toArray, List.getElem?_cons_succ, List.getElem?_cons_zero]; rfl
            rotate_left 1
            · exact anyX_nil
            go_simp
            try go_wp2_with fail
            refine hK.out _ _ hHeld (fun hHeld => ?_)
            clear hK K
            try simp only [Act.put, List.setIfInBounds_toArray, List.set_cons_zero, List.set_cons_succ]
            refine takeX 20 ?_
            refine anyX_ready (rs := [21]) (by kernel_rfl) (by simp) ?_
            refine anyX_last (o := ?_) ?_ (fun K hK => ?_)
            rotate_left 1
            · simp only [List.getElem?_toArray, List.getElem?_cons_succ, List.getElem?_cons_zero]; rfl
            go_simp
            refine hK.out _ _ (anyX_done (by kernel_rfl) ?_ _)
            clear hK K
            have hgE : GRowAt w8 (From w1.heap.size) 3 (k + 1 + (L.length - k)) cap8 a8 (entCells (L.take k ++ ((d, nn), i) :: L.drop k)) := by
              rw [entCells_app, show entCells (((d, nn), i) :: L.drop k) = entC ((d, nn), i) ++ entCells (L.drop k) from rfl, ← List.append_assoc]
              exact hg8.sub (T := From w1.heap.size) (fun j _ hj => by
                show w1.heap.size ≤ j
                have h5 := HB5.out.size
                rcases hj with ((hj | hj) | hj) | hj
                · exact hj.elim
                · first
                    | omega
                    | (simp at hj; omega)
                · first
                    | omega
                    | (simp at hj; omega)
                · first
                    | omega
                    | (simp at hj; omega))
            obtain ⟨hS9, hMS9⟩ := H.out.setRow (HB5.out.trans (hB8.mono HB5.out.size)) hgE (by rw [List.length_append, List.length_cons, List.length_take, List.length_drop]; have := HKL.out; omega)
            have HS9 := Lib.hid hS9
            have HM9 := Lib.hid hMS9
            clear hgE hg8 hM8 hB8 hg7 hM7 hB7 hMW7 hg6 hM6 hMW6 hS9 hMS9
            go_wp2_with fail
            go_ret
            exact ⟨k, HINS.out, rfl, HS9.out, HM9.out⟩
        | some a =>
          have hs1 : ∀ W, (Instr.slice 101 (.slice (some a) L.length cap) none (some (.int .i64 (k : Int))) none).run Tryz.prog W = .ok (.slice (some a) 0 0) W := fun W => by
            rw [hk0, hL0, hc0]
            go_simp
          have hs2 : ∀ W, (Instr.slice 101 (.slice (some a) L.length cap) (some (.int .i64 (k : Int))) none none).run Tryz.prog W = .ok (.slice (some a) 0 0) W := fun W => by
            rw [hk0, hL0, hc0]
            go_simp
          have HS : Hid (∀ W, Mod none' w1 W → Src Tryz.prog 3 101 (.slice (some a) 0 0) k (entCells (L.take k)) W ∧ Src Tryz.prog 3 101 (.slice (some a) 0 0) (L.length - k) (entCells (L.drop k)) W) := Lib.hid (fun W hM => by
            rw [hk0, hL0, hLn]
            exact ⟨Src.ofSlice W Tryz.underlying101 a 0 0 [] (by simp) (by simp) (by simp), Src.ofSlice W Tryz.underlying101 a 0 0 [] (by simp) (by simp) (by simp)⟩)
          clear hLn hcap hc0 hL0 hk0
          have hbl5 := cell_lt q0
          have hxl5 := cell_lt p0
          have g0 := (HB5.out.frozen (p := ⟨b, 0, none⟩) hbl).trans f0
          have hMB5 := Lib.hid (Mod.of_below (F := none') HB5.out)
          have hnL : L.length ≤ 100000 := Hl.out
          refine anyX_begin 21 (fun W' => W'.cell? ⟨b, 0, none⟩ = some (.slice (some a) L.length cap) ∧ W'.cell? ⟨xb, 0, none⟩ = some (.int .i64 d) ∧ W'.cell? ⟨xb, 1, none⟩ = some (.string (bs nn)) ∧ W'.cell? ⟨xb, 2, none⟩ = some (.int .i64 i)) (by kernel_rfl) ⟨q0, p0, p1, p2⟩ (fun hHeld => ?_)
          refine takeX 0 ?_
          refine takeX 2 ?_
          refine takeX 3 ?_
          refine takeX 4 ?_
          refine takeX 5 ?_
          refine takeX 6 ?_
          refine takeX 7 ?_
          refine takeX 9 ?_
          refine takeX 12 ?_
          refine takeX 13 ?_
          refine takeX 14 ?_
          refine takeX 15 ?_
          refine takeX 16 ?_
          refine takeX 17 ?_
          refine anyX_ready (rs := [1, 10]) (by kernel_rfl) (by simp) ?_
          refine anyX_cons (o := ?_) ?_ (fun K hK => ?_) ?_
          rotate_left 1
          · simp only [List.getElem?_toArray, List.getElem?_cons_succ, List.getElem?_cons_zero]; rfl
          · skip
            go_simp
            try go_wp2_with fail
            refine hK.out _ _ ⟨by go_simp, by go_simp, by go_simp, by go_simp⟩ (fun hHeld => ?_)
            clear hK K
            try simp only [Act.put, List.setIfInBounds_toArray, List.set_cons_zero, List.set_cons_succ]
            refine anyX_ready (rs := [8, 10]) (by kernel_rfl) (by simp) ?_
            refine anyX_cons (o := ?_) ?_ (fun K hK => ?_) ?_
            rotate_left 1
            · simp only [List.getElem?_toArray, List.getElem?_cons_succ, List.getElem?_cons_zero]; rfl
            · skip
              refine step_append_g (by rfl) (.tmp 63) (.tmp 69) 101 101 (by rfl) 155 j0 _ 32 Tryz.underlying101 hi hy0 hy1 hy2 (by rfl) (by rfl) (GRowAt.nil _ none' 3 _) _ k (entCells (L.take k)) (by rfl) (HS.out _ (hMB5.out.trans (by exact modC (Mod.refl _ _)))).1 (by omega) (by omega) ?_
              intro a6 cap6 w6 hg6 hM6 hz6
              simp only [Nat.zero_add, List.nil_append] at hg6
              have hMW6 : Mod none' w5 w6 := Mod.trans (by exact modC (Mod.refl _ _)) hM6
              have hz6' := hMW6.size
              have hbl6 : b < w6.heap.size := Nat.lt_of_lt_of_le hbl5 hMW6.size
              have hxl6 : xb < w6.heap.size := Nat.lt_of_lt_of_le hxl5 hMW6.size
              have r0 := hMW6.at q0 id
              have r1 := hMW6.at p0 id
              have r2 := hMW6.at p1 id
              have r3 := hMW6.at p2 id
              try go_wp2_with fail
              refine hK.out _ _ ⟨r0, r1, r2, r3⟩ (fun hHeld => ?_)
              clear hK K
              try simp only [Act.put, List.setIfInBounds_toArray, List.set_cons_zero, List.set_cons_succ]
              refine anyX_ready (rs := [10]) (by kernel_rfl) (by simp) ?_
              refine anyX_cons (o := ?_) ?_ (fun K hK => ?_) ?_
              rotate_left 1
              · simp only [List.getElem?_toArray, List.getElem?_cons_succ, List.getElem?_cons_zero]; rfl
              rotate_left 1
              · exact anyX_nil
              go_simp
              try go_wp2_with fail
              refine hK.out _ _ ⟨by go_simp, by go_simp, by go_simp, by go_simp⟩ (fun hHeld => ?_)
              clear hK K
              try simp only [Act.put, List.setIfInBounds_toArray, List.set_cons_zero, List.set_cons_succ]
              refine anyX_ready (rs := [11]) (by kernel_rfl) (by simp) ?_
              refine anyX_cons (o := ?_) ?_ (fun K hK => ?_) ?_
              rotate_left 1
              · simp only [List.getElem?_toArray, List.getElem?_cons_succ, List.getElem?_cons_zero]; rfl
              rotate_left 1
              · exact anyX_nil
              refine step_append_g (by rfl) (.tmp 70) (.tmp 72) 101 101 (by rfl) 155 j0 _ 32 Tryz.underlying101 hi hy0 hy1 hy2 (by rfl) (by rfl) (hg6.mod (F := none') (by exact modC (Mod.refl _ _)) (fun _ _ _ => id)) _ 1 (entC ((d, nn), i)) (by rfl) (src_ent _ _ Tryz.underlying101 _ ((d, nn), i) 155 (heap_alloc_new _ _) _) (by omega) (by omega) ?_
              intro a7 cap7 w7 hg7 hM7 hz7
              have hB7 : Below w5.heap.size w5 w7 := Below.trans (show Below w5.heap.size w5 _ from by
                have hB6 := hMW6.below
                exact belC hB6) (hM7.below_at (by first | exact hz6' | (simp only [World.size_alloc]; exact Nat.le_trans hz6' (by omega)) | (simp; omega)) (fun j hj e => by
                rcases e with e | e
                · exact e
                · simp at e; omega))
              have hMW7 : Mod none' w5 w7 := Mod.of_below hB7
              have hz7' := hB7.size
              have hbl7 : b < w7.heap.size := Nat.lt_of_lt_of_le hbl5 hz7'
              have s0 := below_at hB7 q0 hbl5
              have s1 := below_at hB7 p0 hxl5
              have s2 := below_at hB7 p1 hxl5
              have s3 := below_at hB7 p2 hxl5
              try go_wp2_with fail
              refine hK.out _ _ ⟨s0, s1, s2, s3⟩ (fun hHeld => ?_)
              clear hK K
              try simp only [Act.put, List.setIfInBounds_toArray, List.set_cons_zero, List.set_cons_succ]
              refine anyX_ready (rs := [18]) (by kernel_rfl) (by simp) ?_
              refine anyX_cons (o := ?_) ?_ (fun K hK => ?_) ?_
              rotate_left 1
              · simp only [List.getElem?_toArray, List.getElem?_cons_succ, List.getElem?_cons_zero]; rfl
              rotate_left 1
              · exact anyX_nil
              refine step_append_g (by rfl) (.tmp 73) (.tmp 79) 101 101 (by rfl) 155 j0 _ 32 Tryz.underlying101 hi hy0 hy1 hy2 (by rfl) (by rfl) (hg7.mod (F := none') (by exact modC (Mod.refl _ _)) (fun _ _ _ => id)) _ (L.length - k) (entCells (L.drop k)) (by rfl) (HS.out _ (hMB5.out.trans (Mod.trans hMW7 (by exact modC (Mod.refl _ _))))).2 (by omega) (by omega) ?_
              intro a8 cap8 w8 hg8 hM8 hz8
              have hB8 : Below w5.heap.size w5 w8 := Below.trans (show Below w5.heap.size w5 _ from by
                have hB7' := hMW7.below
                exact belC hB7') (hM8.below_at (by first | exact hz7' | (simp only [World.size_alloc]; exact Nat.le_trans hz7' (by omega)) | (simp; omega)) (fun j hj e => by
                rcases e with (e | e) | e
                · exact e
                · first
                    | omega
                    | (simp at e; omega)
                · first
                    | omega
                    | (simp at e; omega)))
              have c08 := below_at hB8 q0 hbl5
              have f08 := (hB8.frozen (p := ⟨b, 0, none⟩) hbl5).trans g0
              try go_wp2_with fail
              refine hK.out _ _ ⟨c08, below_at hB8 p0 hxl5, below_at hB8 p1 hxl5, below_at hB8 p2 hxl5⟩ (fun hHeld => ?_)
              clear hK K
              try simp only [Act.put, List.setIfInBounds_toArray, List.set_cons_zero, List.set_cons_succ]
              refine anyX_ready (rs := [19]) (by kernel_rfl) (by simp) ?_
              refine anyX_cons (o := ?_) ?_ (fun K hK => ?_) ?_
              rotate_left 1
              · simp only [List.getElem?_toArray, List.getElem?_cons_succ, List.getElem?_cons_zero]; rfl
              rotate_left 1
              · exact anyX_nil
              go_simp
              try go_wp2_with fail
              refine hK.out _ _ hHeld (fun hHeld => ?_)
              clear hK K
              try simp only [Act.put, List.setIfInBounds_toArray, List.set_cons_zero, List.set_cons_succ]
              refine takeX 20 ?_
              refine anyX_ready (rs := [21]) (by kernel_rfl) (by simp) ?_
              refine anyX_last (o := ?_) ?_ (fun K hK => ?_)
              rotate_left 1
              · simp only [List.getElem?_toArray, List.getElem?_cons_succ, List.getElem?_cons_zero]; rfl
              go_simp
              refine hK.out _ _ (anyX_done (by kernel_rfl) ?_ _)
              clear hK K
              have hgE : GRowAt w8 (From w1.heap.size) 3 (k + 1 + (L.length - k)) cap8 a8 (entCells (L.take k ++ ((d, nn), i) :: L.drop k)) := by
                rw [entCells_app, show entCells (((d, nn), i) :: L.drop k) = entC ((d, nn), i) ++ entCells (L.drop k) from rfl, ← List.append_assoc]
                exact hg8.sub (T := From w1.heap.size) (fun j _ hj => by
                  show w1.heap.size ≤ j
                  have h5 := HB5.out.size
                  rcases hj with ((hj | hj) | hj) | hj
                  · exact hj.elim
                  · first
                      | omega
                      | (simp at hj; omega)
                  · first
                      | omega
                      | (simp at hj; omega)
                  · first
                      | omega
                      | (simp at hj; omega))
              obtain ⟨hS9, hMS9⟩ := H.out.setRow (HB5.out.trans (hB8.mono HB5.out.size)) hgE (by rw [List.length_append, List.length_cons, List.length_take, List.length_drop]; have := HKL.out; omega)
              have HS9 := Lib.hid hS9
              have HM9 := Lib.hid hMS9
              clear hgE hg8 hM8 hB8 hg7 hM7 hB7 hMW7 hg6 hM6 hMW6 hS9 hMS9
              go_wp2_with fail
              go_ret
              exact ⟨k, HINS.out, rfl, HS9.out, HM9.out⟩
            · skip
              refine anyX_cons (o := ?_) ?_ (fun K hK => ?_) ?_
              rotate_left 1
              · simp only [List.getElem?_toArray, List.getElem?_cons_succ, List.getElem?_cons_zero]; rfl
              rotate_left 1
              · exact anyX_nil
              go_simp
              try go_wp2_with fail
              refine hK.out _ _ ⟨by go_simp, by go_simp, by go_simp, by go_simp⟩ (fun hHeld => ?_)
              clear hK K
              try simp only [Act.put, List.setIfInBounds_toArray, List.set_cons_zero, List.set_cons_succ]
              refine anyX_ready (rs := [8]) (by kernel_rfl) (by simp) ?_
              refine anyX_cons (o := ?_) ?_ (fun K hK => ?_) ?_
              rotate_left 1
              · simp only [List.getElem?_toArray, List.getElem?_cons_succ, List.getElem?_cons_zero]; rfl
              rotate_left 1
              · exact anyX_nil
              refine step_append_g (by rfl) (.tmp 63) (.tmp 69) 101 101 (by rfl) 155 j0 _ 32 Tryz.underlying101 hi hy0 hy1 hy2 (by rfl) (by rfl) (GRowAt.nil _ none' 3 _) _ k (entCells (L.take k)) (by rfl) (HS.out _ (hMB5.out.trans (by exact modC (Mod.refl _ _)))).1 (by omega) (by omega) ?_
              intro a6 cap6 w6 hg6 hM6 hz6
              simp only [Nat.zero_add, List.nil_append] at hg6
              have hMW6 : Mod none' w5 w6 := Mod.trans (by exact modC (Mod.refl _ _)) hM6
              have hz6' := hMW6.size
              have hbl6 : b < w6.heap.size := Nat.lt_of_lt_of_le hbl5 hMW6.size
              have hxl6 : xb < w6.heap.size := Nat.lt_of_lt_of_le hxl5 hMW6.size
              have r0 := hMW6.at q0 id
              have r1 := hMW6.at p0 id
              have r2 := hMW6.at p1 id
              have r3 := hMW6.at p2 id
              try go_wp2_with fail
              refine hK.out _ _ ⟨r0, r1, r2, r3⟩ (fun hHeld => ?_)
              clear hK K
              try simp only [Act.put, List.setIfInBounds_toArray, List.set_cons_zero, List.set_cons_succ]
              refine anyX_ready (rs := [11]) (by kernel_rfl) (by simp) ?_
              refine anyX_cons (o := ?_) ?_ (fun K hK => ?_) ?_
              rotate_left 1
              · simp only [List.getElem?_toArray, List.getElem?_cons_succ, List.getElem?_cons_zero]; rfl
              rotate_left 1
              · exact anyX_nil
              refine step_append_g (by rfl) (.tmp 70) (.tmp 72) 101 101 (by rfl) 155 j0 _ 32 Tryz.underlying101 hi hy0 hy1 hy2 (by rfl) (by rfl) (hg6.mod (F := none') (by exact modC (Mod.refl _ _)) (fun _ _ _ => id)) _ 1 (entC ((d, nn), i)) (by rfl) (src_ent _ _ Tryz.underlying101 _ ((d, nn), i) 155 ((hM6.block _ (twoLt _ _ _).2 id).trans (heapTwoLast _ _ _)) _) (by omega) (by omega) ?_
              intro a7 cap7 w7 hg7 hM7 hz7
              have hB7 : Below w5.heap.size w5 w7 := Below.trans (show Below w5.heap.size w5 _ from by
                have hB6 := hMW6.below
                exact belC hB6) (hM7.below_at (by first | exact hz6' | (simp only [World.size_alloc]; exact Nat.le_trans hz6' (by omega)) | (simp; omega)) (fun j hj e => by
                rcases e with e | e
                · exact e
                · simp at e; omega))
              have hMW7 : Mod none' w5 w7 := Mod.of_below hB7
              have hz7' := hB7.size
              have hbl7 : b < w7.heap.size := Nat.lt_of_lt_of_le hbl5 hz7'
              have s0 := below_at hB7 q0 hbl5
              have s1 := below_at hB7 p0 hxl5
              have s2 := below_at hB7 p1 hxl5
              have s3 := below_at hB7 p2 hxl5
              try go_wp2_with fail
              refine hK.out _ _ ⟨s0, s1, s2, s3⟩ (fun hHeld => ?_)
              clear hK K
              try simp only [Act.put, List.setIfInBounds_toArray, List.set_cons_zero, List.set_cons_succ]
              refine anyX_ready (rs := [18]) (by kernel_rfl) (by simp) ?_
              refine anyX_cons (o := ?_) ?_ (fun K hK => ?_) ?_
              rotate_left 1
              · simp only [List.getElem?_toArray, List.getElem?_cons_succ, List.getElem?_cons_zero]; rfl
              rotate_left 1
              · exact anyX_nil
              refine step_append_g (by rfl) (.tmp 73) (.tmp 79) 101 101 (by rfl) 155 j0 _ 32 Tryz.underlying101 hi hy0 hy1 hy2 (by rfl) (by rfl) (hg7.mod (F := none') (by exact modC (Mod.refl _ _)) (fun _ _ _ => id)) _ (L.length - k) (entCells (L.drop k)) (by rfl) (HS.out _ (hMB5.out.trans (Mod.trans hMW7 (by exact modC (Mod.refl _ _))))).2 (by omega) (by omega) ?_
              intro a8 cap8 w8 hg8 hM8 hz8
              have hB8 : Below w5.heap.size w5 w8 := Below.trans (show Below w5.heap.size w5 _ from by
                have hB7' := hMW7.below
                exact belC hB7') (hM8.below_at (by first | exact hz7' | (simp only [World.size_alloc]; exact Nat.le_trans hz7' (by omega)) | (simp; omega)) (fun j hj e => by
                rcases e with (e | e) | e
                · exact e
                · first
                    | omega
                    | (simp at e; omega)
                · first
                    | omega
                    | (simp at e; omega)))
              have c08 := below_at hB8 q0 hbl5
              have f08 := (hB8.frozen (p := ⟨b, 0, none⟩) hbl5).trans g0
              try go_wp2_with fail
              refine hK.out _ _ ⟨c08, below_at hB8 p0 hxl5, below_at hB8 p1 hxl5, below_at hB8 p2 hxl5⟩ (fun hHeld => ?_)
              clear hK K
              try simp only [Act.put, List.setIfInBounds_toArray, List.set_cons_zero, List.set_cons_succ]
              refine anyX_ready (rs := [19]) (by kernel_rfl) (by simp) ?_
              refine anyX_cons (o := ?_) ?_ (fun K hK => ?_) ?_
              rotate_left 1
              · simp only [List.getElem?_toArray, List.getElem?_cons_succ, List.getElem?_cons_zero]; rfl
              rotate_left 1
              · exact anyX_nil
              go_simp
              try go_wp2_with fail
              refine hK.out _ _ hHeld (fun hHeld => ?_)
              clear hK K
              try simp only [Act.put, List.setIfInBounds_toArray, List.set_cons_zero, List.set_cons_succ]
              refine takeX 20 ?_
              refine anyX_ready (rs := [21]) (by kernel_rfl) (by simp) ?_
              refine anyX_last (o := ?_) ?_ (fun K hK => ?_)
              rotate_left 1
              · simp only [List.getElem?_toArray, List.getElem?_cons_succ, List.getElem?_cons_zero]; rfl
              go_simp
              refine hK.out _ _ (anyX_done (by kernel_rfl) ?_ _)
              clear hK K
              have hgE : GRowAt w8 (From w1.heap.size) 3 (k + 1 + (L.length - k)) cap8 a8 (entCells (L.take k ++ ((d, nn), i) :: L.drop k)) := by
                rw [entCells_app, show entCells (((d, nn), i) :: L.drop k) = entC ((d, nn), i) ++ entCells (L.drop k) from rfl, ← List.append_assoc]
                exact hg8.sub (T := From w1.heap.size) (fun j _ hj => by
                  show w1.heap.size ≤ j
                  have h5 := HB5.out.size
                  rcases hj with ((hj | hj) | hj) | hj
                  · exact hj.elim
                  · first
                      | omega
                      | (simp at hj; omega)
                  · first
                      | omega
                      | (simp at hj; omega)
                  · first
                      | omega
                      | (simp at hj; omega))
              obtain ⟨hS9, hMS9⟩ := H.out.setRow (HB5.out.trans (hB8.mono HB5.out.size)) hgE (by rw [List.length_append, List.length_cons, List.length_take, List.length_drop]; have := HKL.out; omega)
              have HS9 := Lib.hid hS9
              have HM9 := Lib.hid hMS9
              clear hgE hg8 hM8 hB8 hg7 hM7 hB7 hMW7 hg6 hM6 hMW6 hS9 hMS9
              go_wp2_with fail
              go_ret
              exact ⟨k, HINS.out, rfl, HS9.out, HM9.out⟩
          · skip
            refine anyX_cons (o := ?_) ?_ (fun K hK => ?_) ?_
            rotate_left 1
            · simp only [List.getElem?_toArray, List.getElem?_cons_succ, List.getElem?_cons_zero]; rfl
            rotate_left 1
            · exact anyX_nil
            go_simp
            try go_wp2_with fail
            refine hK.out _ _ ⟨by go_simp, by go_simp, by go_simp, by go_simp⟩ (fun hHeld => ?_)
            clear hK K
            try simp only [Act.put, List.setIfInBounds_toArray, List.set_cons_zero, List.set_cons_succ]
            refine anyX_ready (rs := [1]) (by kernel_rfl) (by simp) ?_
            refine anyX_cons (o := ?_) ?_ (fun K hK => ?_) ?_
            rotate_left 1
            · simp only [List.getElem?_toArray, List.getElem?_cons_succ, List.getElem?_cons_zero]; rfl
            rotate_left 1
            · exact anyX_nil
            go_simp
            try go_wp2_with fail
            refine hK.out _ _ ⟨by go_simp, by go_simp, by go_simp, by go_simp⟩ (fun hHeld => ?_)
            clear hK K
            try simp only [Act.put, List.setIfInBounds_toArray, List.set_cons_zero, List.set_cons_succ]
            refine anyX_ready (rs := [8]) (by kernel_rfl) (by simp) ?_
            refine anyX_cons (o := ?_) ?_ (fun K hK => ?_) ?_
            rotate_left 1
            · simp only [List.getElem?_toArray, List.getElem?_cons_succ, List.getElem?_cons_zero]; rfl
            rotate_left 1
            · exact anyX_nil
            refine step_append_g (by rfl) (.tmp 63) (.tmp 69) 101 101 (by rfl) 155 j0 _ 32 Tryz.underlying101 hi hy0 hy1 hy2 (by rfl) (by rfl) (GRowAt.nil _ none' 3 _) _ k (entCells (L.take k)) (by rfl) (HS.out _ (hMB5.out.trans (by exact modC (Mod.refl _ _)))).1 (by omega) (by omega) ?_
            intro a6 cap6 w6 hg6 hM6 hz6
            simp only [Nat.zero_add, List.nil_append] at hg6
            have hMW6 : Mod none' w5 w6 := Mod.trans (by exact modC (Mod.refl _ _)) hM6
            have hz6' := hMW6.size
            have hbl6 : b < w6.heap.size := Nat.lt_of_lt_of_le hbl5 hMW6.size
            have hxl6 : xb < w6.heap.size := Nat.lt_of_lt_of_le hxl5 hMW6.size
            have r0 := hMW6.at q0 id
            have r1 := hMW6.at p0 id
            have r2 := hMW6.at p1 id
            have r3 := hMW6.at p2 id
            try go_wp2_with fail
            refine hK.out _ _ ⟨r0, r1, r2, r3⟩ (fun hHeld => ?_)
            clear hK K
            try simp only [Act.put, List.setIfInBounds_toArray, List.set_cons_zero, List.set_cons_succ]
            refine anyX_ready (rs := [11]) (by kernel_rfl) (by simp) ?_
            refine anyX_cons (o := ?_) ?_ (fun K hK => ?_) ?_
            rotate_left 1
            · simp only [List.getElem?_toArray, List.getElem?_cons_succ, List.getElem?_cons_zero]; rfl
            rotate_left 1
            · exact anyX_nil
            refine step_append_g (by rfl) (.tmp 70) (.tmp 72) 101 101 (by rfl) 155 j0 _ 32 Tryz.underlying101 hi hy0 hy1 hy2 (by rfl) (by rfl) (hg6.mod (F := none') (by exact modC (Mod.refl _ _)) (fun _ _ _ => id)) _ 1 (entC ((d, nn), i)) (by rfl) (src_ent _ _ Tryz.underlying101 _ ((d, nn), i) 155 ((hM6.block _ (twoLt _ _ _).1 id).trans (heapTwoFirst _ _ _)) _) (by omega) (by omega) ?_
            intro a7 cap7 w7 hg7 hM7 hz7
            have hB7 : Below w5.heap.size w5 w7 := Below.trans (show Below w5.heap.size w5 _ from by
              have hB6 := hMW6.below
              exact belC hB6) (hM7.below_at (by first | exact hz6' | (simp only [World.size_alloc]; exact Nat.le_trans hz6' (by omega)) | (simp; omega)) (fun j hj e => by
              rcases e with e | e
              · exact e
              · simp at e; omega))
            have hMW7 : Mod none' w5 w7 := Mod.of_below hB7
            have hz7' := hB7.size
            have hbl7 : b < w7.heap.size := Nat.lt_of_lt_of_le hbl5 hz7'
            have s0 := below_at hB7 q0 hbl5
            have s1 := below_at hB7 p0 hxl5
            have s2 := below_at hB7 p1 hxl5
            have s3 := below_at hB7 p2 hxl5
            try go_wp2_with fail
            refine hK.out _ _ ⟨s0, s1, s2, s3⟩ (fun hHeld => ?_)
            clear hK K
            try simp only [Act.put, List.setIfInBounds_toArray, List.set_cons_zero, List.set_cons_succ]
            refine anyX_ready (rs := [18]) (by kernel_rfl) (by simp) ?_
            refine anyX_cons (o := ?_) ?_ (fun K hK => ?_) ?_
            rotate_left 1
            · simp only [List.getElem?_toArray, List.getElem?_cons_succ, List.getElem?_cons_zero]; rfl
            rotate_left 1
            · exact anyX_nil
            refine step_append_g (by rfl) (.tmp 73) (.tmp 79) 101 101 (by rfl) 155 j0 _ 32 Tryz.underlying101 hi hy0 hy1 hy2 (by rfl) (by rfl) (hg7.mod (F := none') (by exact modC (Mod.refl _ _)) (fun _ _ _ => id)) _ (L.length - k) (entCells (L.drop k)) (by rfl) (HS.out _ (hMB5.out.trans (Mod.trans hMW7 (by exact modC (Mod.refl _ _))))).2 (by omega) (by omega) ?_
            intro a8 cap8 w8 hg8 hM8 hz8
            have hB8 : Below w5.heap.size w5 w8 := Below.trans (show Below w5.heap.size w5 _ from by
              have hB7' := hMW7.below
              exact belC hB7') (hM8.below_at (by first | exact hz7' | (simp only [World.size_alloc]; exact Nat.le_trans hz7' (by omega)) | (simp; omega)) (fun j hj e => by
              rcases e with (e | e) | e
              · exact e
              · first
                  | omega
                  | (simp at e; omega)
              · first
                  | omega
                  | (simp at e; omega)))
            have c08 := below_at hB8 q0 hbl5
            have f08 := (hB8.frozen (p := ⟨b, 0, none⟩) hbl5).trans g0
            try go_wp2_with fail
            refine hK.out _ _ ⟨c08, below_at hB8 p0 hxl5, below_at hB8 p1 hxl5, below_at hB8 p2 hxl5⟩ (fun hHeld => ?_)
            clear hK K
            try simp only [Act.put, List.setIfInBounds_toArray, List.set_cons_zero, List.set_cons_succ]
            refine anyX_ready (rs := [19]) (by kernel_rfl) (by simp) ?_
            refine anyX_cons (o := ?_) ?_ (fun K hK => ?_) ?_
            rotate_left 1
            · simp only [List.getElem?_toArray, List.getElem?_cons_succ, List.getElem?_cons_zero]; rfl
            rotate_left 1
            · exact anyX_nil
            go_simp
            try go_wp2_with fail
            refine hK.out _ _ hHeld (fun hHeld => ?_)
            clear hK K
            try simp only [Act.put, List.setIfInBounds_toArray, List.set_cons_zero, List.set_cons_succ]
            refine takeX 20 ?_
            refine anyX_ready (rs := [21]) (by kernel_rfl) (by simp) ?_
            refine anyX_last (o := ?_) ?_ (fun K hK => ?_)
            rotate_left 1
            · simp only [List.getElem?_toArray, List.getElem?_cons_succ, List.getElem?_cons_zero]; rfl
            go_simp
            refine hK.out _ _ (anyX_done (by kernel_rfl) ?_ _)
            clear hK K
            have hgE : GRowAt w8 (From w1.heap.size) 3 (k + 1 + (L.length - k)) cap8 a8 (entCells (L.take k ++ ((d, nn), i) :: L.drop k)) := by
              rw [entCells_app, show entCells (((d, nn), i) :: L.drop k) = entC ((d, nn), i) ++ entCells (L.drop k) from rfl, ← List.append_assoc]
              exact hg8.sub (T := From w1.heap.size) (fun j _ hj => by
                show w1.heap.size ≤ j
                have h5 := HB5.out.size
                rcases hj with ((hj | hj) | hj) | hj
                · exact hj.elim
                · first
                    | omega
                    | (simp at hj; omega)
                · first
                    | omega
                    | (simp at hj; omega)
                · first
                    | omega
                    | (simp at hj; omega))
            obtain ⟨hS9, hMS9⟩ := H.out.setRow (HB5.out.trans (hB8.mono HB5.out.size)) hgE (by rw [List.length_append, List.length_cons, List.length_take, List.length_drop]; have := HKL.out; omega)
            have HS9 := Lib.hid hS9
            have HM9 := Lib.hid hMS9
            clear hgE hg8 hM8 hB8 hg7 hM7 hB7 hMW7 hg6 hM6 hMW6 hS9 hMS9
            go_wp2_with fail
            go_ret
            exact ⟨k, HINS.out, rfl, HS9.out, HM9.out⟩
end Go.Proofs.YtakbalmbkokklaaGreat
