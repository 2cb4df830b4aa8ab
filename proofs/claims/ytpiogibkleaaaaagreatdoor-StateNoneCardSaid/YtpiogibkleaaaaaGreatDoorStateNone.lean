/- the law StateNone: the walk -/
import Derived.Test.YtpiogibkleaaaaaGreatDoorPkNil
import Derived.Test.YtpiogibkleaaaaaGreatDoorPkSm
import Derived.Test.YtpiogibkleaaaaaGreatDoorPkDm
import Derived.Test.YtpiogibkleaaaaaGreatDoorPkW
namespace Go.Proofs.YtpiogibkleaaaaaGreatDoor
open Go.RowKit Esch Go.Shelf

set_option linter.unusedSimpArgs false
def NonePost (w : World) (e : Ending) (w' : World) : Prop := e = .returned (.bool true) ∧ Below w.heap.size w w'
def dz : DmC := ⟨0, none, 0, [], 0, none, 0, [], none, 0, [], fun _ => 0, fun _ => 0, fun _ => 0⟩
theorem dz_ok (w : World) (S : Nat → Prop) : DmOk w S dz := ⟨⟨RwAt.nil _ _ _ _, fun x hx => (by cases hx)⟩, RwAt.nil _ _ _ _, RwAt.nil _ _ _ _, Nat.zero_le _, Nat.zero_le _, Nat.zero_le _⟩
theorem dz_same : dz.same dz = true := by decide
theorem same_zero (w : World) : Calls Tryz.prog 7 #[.agg dumpZ.toArray, .agg dumpZ.toArray] w (InEqPost w true) := by
  have h := stSame_any w none' none' dz dz (dz_ok _ _) (dz_ok _ _)
  rw [dz_same] at h
  exact h
theorem fair_len {x : OpS} {t : ByteArray} (h : fairB x t = true) : x.path.length ≤ 2000 ∧ x.dest.length ≤ 2000 ∧ x.ml ≤ 100 := by
  unfold fairB at h
  simp only [Bool.not_eq_true', Bool.or_eq_false_iff, decide_eq_false_iff_not] at h
  omega
theorem new_lens : st0.t.t.m.length ≤ 100000 ∧ st0.t.n.m.length ≤ 100000 ∧ st0.h.m.length ≤ 100000 := by decide
set_option maxRecDepth 100000 in
set_option maxHeartbeats 8000000 in
theorem stateNone_walk (w : World) (hf : FieldsAt w) (hw : 0 < w.heap.size) (x : OpS) (t : ByteArray) (raw junk : Bool) (addr : Int) (mv : List Mv) (hx : OpIn w x mv) :
    Calls Tryz.prog 4 #[.agg (recCells x t raw junk).toArray, .int .i64 addr] w (NonePost w) := by
  have HF := Lib.hid hf
  have HENC : Hid (fairB x t = true → ∀ W, Below w.heap.size w W → Calls Tryz.prog 54 #[.agg x.cells.toArray] W (EncAny W)) := Lib.hid (fun hfr W hB => rEnc_any W x mv (hx.below' hB) (fair_len hfr).1 (fair_len hfr).2.1 (by have := hx.len; have := (fair_len hfr).2.2; omega))
  have HOF : Hid (fairB x t = true → ∀ W, Below w.heap.size w W → Calls Tryz.prog 12 #[.agg (recCells x t raw junk).toArray] W (OfPost W)) := Lib.hid (fun hfr W hB => of25_any W x t raw junk (fun W' hB' => HENC.out hfr W' (hB.trans (hB'.mono hB.size))))
  obtain ⟨W1, hW1⟩ : ∃ W1, W1 = w.alloc (.cells (recCells x t raw junk).toArray 43) := ⟨_, rfl⟩
  obtain ⟨W2, hW2⟩ : ∃ W2, W2 = W1.alloc (.cells (recCells x t raw junk).toArray 43) := ⟨_, rfl⟩
  have hz1 : W1.heap.size = w.heap.size + 1 := by rw [hW1]; simp
  have hB1 : Below w.heap.size w W1 := by rw [hW1]; exact belC (Below.refl _ _)
  have hB2 : Below w.heap.size w W2 := by rw [hW2]; exact belC hB1
  have hcs : ∀ i, i < 15 → W2.cell? ⟨W1.heap.size, i, none⟩ = (recCells x t raw junk)[i]? := fun i _ => by
    have hb : W2.heap[W1.heap.size]? = some (.cells (recCells x t raw junk).toArray 43) := by rw [hW2]; exact heap_alloc_new _ _
    simp [World.cell?, hb]
  have hbx : ∀ i, i < 15 → W2.cell? ⟨w.heap.size, i, none⟩ = (recCells x t raw junk)[i]? := fun i hi => by
    have hb : W1.heap[w.heap.size]? = some (.cells (recCells x t raw junk).toArray 43) := by rw [hW1]; exact heap_alloc_new _ _
    have h1 : W1.cell? ⟨w.heap.size, i, none⟩ = (recCells x t raw junk)[i]? := by simp [World.cell?, hb]
    have hlen : (recCells x t raw junk).length = 15 := rfl
    have h2 : (recCells x t raw junk)[i]? = some ((recCells x t raw junk)[i]'(by omega)) := List.getElem?_eq_getElem _
    rw [h2] at h1 ⊢
    exact below_at (show Below W1.heap.size W1 W2 by rw [hW2]; exact belC (Below.refl _ _)) h1 (cell_lt h1)
  have hfr := fair25_one W2 W1.heap.size x t raw junk hcs
  rw [hz1] at hfr
  have HW1 := Lib.hid hW1
  have HW2 := Lib.hid hW2
  have HB2 := Lib.hid hB2
  obtain ⟨fr, hfrq⟩ : ∃ fr, fr = fairB x t := ⟨_, rfl⟩
  rw [← hfrq] at hfr HOF
  have HFR := Lib.hid hfr
  clear hf hx HENC hcs hW1 hW2 hB1 hB2 hz1 hfr hfrq
  obtain ⟨xc, xs, xk, p, q, xz, xh, xo, xt, xi, xn, mp, ml, mc⟩ := x
  have z0 : W2.cell? ⟨w.heap.size, 0, none⟩ = some (.int .i64 xc) := hbx 0 (by decide)
  have z1 : W2.cell? ⟨w.heap.size, 1, none⟩ = some (.int .i64 xs) := hbx 1 (by decide)
  have z2 : W2.cell? ⟨w.heap.size, 2, none⟩ = some (.int .i64 xk) := hbx 2 (by decide)
  have z3 : W2.cell? ⟨w.heap.size, 3, none⟩ = some (.string (bs p)) := hbx 3 (by decide)
  have z4 : W2.cell? ⟨w.heap.size, 4, none⟩ = some (.string (bs q)) := hbx 4 (by decide)
  have z5 : W2.cell? ⟨w.heap.size, 5, none⟩ = some (.int .i64 xz) := hbx 5 (by decide)
  have z6 : W2.cell? ⟨w.heap.size, 6, none⟩ = some (.int .i64 xh) := hbx 6 (by decide)
  have z7 : W2.cell? ⟨w.heap.size, 7, none⟩ = some (.int .i64 xo) := hbx 7 (by decide)
  have z8 : W2.cell? ⟨w.heap.size, 8, none⟩ = some (.string xt) := hbx 8 (by decide)
  have z9 : W2.cell? ⟨w.heap.size, 9, none⟩ = some (.int .i64 xi) := hbx 9 (by decide)
  have z10 : W2.cell? ⟨w.heap.size, 10, none⟩ = some (.int .i64 xn) := hbx 10 (by decide)
  have z11 : W2.cell? ⟨w.heap.size, 11, none⟩ = some (.slice mp ml mc) := hbx 11 (by decide)
  have z12 : W2.cell? ⟨w.heap.size, 12, none⟩ = some (.string t) := hbx 12 (by decide)
  have z13 : W2.cell? ⟨w.heap.size, 13, none⟩ = some (.bool raw) := hbx 13 (by decide)
  have z14 : W2.cell? ⟨w.heap.size, 14, none⟩ = some (.bool junk) := hbx 14 (by decide)
  have hol := cell_lt z0
  simp only [recCells, OpS.cells, List.cons_append, List.nil_append] at HOF HW1 HW2 ⊢
  clear hbx
  go_enter Tryz.func4, Tryz.ntmps4
  go_wp2_with fail
  rw [← HW1.out, ← HW2.out]
  refine HFR.out.mono ?_
  rintro e w3 ⟨rfl, hB3⟩
  have z0 := below_at hB3 z0 hol
  have z1 := below_at hB3 z1 hol
  have z2 := below_at hB3 z2 hol
  have z3 := below_at hB3 z3 hol
  have z4 := below_at hB3 z4 hol
  have z5 := below_at hB3 z5 hol
  have z6 := below_at hB3 z6 hol
  have z7 := below_at hB3 z7 hol
  have z8 := below_at hB3 z8 hol
  have z9 := below_at hB3 z9 hol
  have z10 := below_at hB3 z10 hol
  have z11 := below_at hB3 z11 hol
  have z12 := below_at hB3 z12 hol
  have z13 := below_at hB3 z13 hol
  have z14 := below_at hB3 z14 hol
  have HB3 := Lib.hid (HB2.out.trans (hB3.mono HB2.out.size))
  clear hB3 HFR HW1 HW2
  cases fr
  · clear z0 z1 z2 z3 z4 z5 z6 z7 z8 z9 z10 z11 z12 z13 z14
    go_wp2_with fail
    refine (wakes25_any w3 (HF.out.below HB3.out hw) (Nat.lt_of_lt_of_le hw HB3.out.size)).mono ?_
    rintro e wv ⟨rfl, hBv⟩
    have HBv := Lib.hid (HB3.out.trans (hBv.mono HB3.out.size))
    clear hBv
    go_wp2_with fail
    go_ret
    exact ⟨rfl, HBv.out⟩
  · have hof := HOF.out rfl w3 HB3.out
    clear HOF
    go_wp2_with fail
    refine hof.mono ?_
    clear hof z0 z1 z2 z3 z4 z5 z6 z7 z8 z9 z10 z11 z12 z13 z14 hol
    rintro e w4 ⟨kd, tx, rfl, hB4⟩
    have HB4 := Lib.hid (HB3.out.trans (hB4.mono HB3.out.size))
    clear hB4
    go_wp2_with fail
    refine (stApply_nil w4 addr kd tx).mono ?_
    rintro e w5 ⟨rfl, hB5⟩
    have HB5 := Lib.hid (HB4.out.trans (hB5.mono HB4.out.size))
    clear hB5
    go_wp2_with fail
    have hz5 : w.heap.size ≤ w5.heap.size := HB5.out.size
    obtain ⟨W6, hW6⟩ : ∃ W6, W6 = w5.alloc (.cells #[.int .i64 0, .int .i64 0] 28) := ⟨_, rfl⟩
    have hB6 : Below w.heap.size w W6 := by rw [hW6]; exact belC HB5.out
    have HB6 := Lib.hid hB6
    rw [← hW6]
    clear hB6 hW6
    refine (stNext_nil W6).mono ?_
    rintro e w7 ⟨rfl, hB7⟩
    have HB7 := Lib.hid (HB6.out.trans (hB7.mono HB6.out.size))
    clear hB7
    go_wp2_with fail
    refine (stTree_nil w7).mono ?_
    rintro e w8 ⟨rfl, hB8⟩
    have HB8 := Lib.hid (HB7.out.trans (hB8.mono HB7.out.size))
    clear hB8
    go_wp2_with fail
    refine (stHandles_nil w8).mono ?_
    rintro e w9 ⟨rfl, hB9⟩
    have HB9 := Lib.hid (HB8.out.trans (hB9.mono HB8.out.size))
    clear hB9
    go_wp2_with fail
    refine (stOnce_nil w9).mono ?_
    rintro e w10 ⟨rfl, hB10⟩
    have HB10 := Lib.hid (HB9.out.trans (hB10.mono HB9.out.size))
    clear hB10
    go_wp2_with fail
    refine (stDump_nil w10).mono ?_
    rintro e w11 ⟨rfl, hB11⟩
    have HB11 := Lib.hid (HB10.out.trans (hB11.mono HB10.out.size))
    clear hB11
    go_wp2_with fail
    refine (same_zero w11).mono ?_
    rintro e w12 ⟨rfl, hB12⟩
    have HB12 := Lib.hid (HB11.out.trans (hB12.mono HB11.out.size))
    clear hB12
    go_wp2_with fail
    refine (stNew_any w12).mono ?_
    rintro e w13 ⟨b, rfl, hS, hB13⟩
    have HB13 := Lib.hid (HB12.out.trans (hB13.mono HB12.out.size))
    have HS := Lib.hid hS
    clear hB13 hS
    go_wp2_with fail
    refine (stDump_any w13 b _ st0 HS.out new_lens.1 new_lens.2.1 new_lens.2.2).mono ?_
    rintro e w14 ⟨ia, ic, ik, na, nc, nl, ha, hc, hl, rfl, -, -, -, -, -, -, hB14⟩
    have HB14 := Lib.hid (HB13.out.trans (hB14.mono HB13.out.size))
    clear hB14
    generalize dmCells st0 (.slice ia ik.length ic) (.slice na nl.length nc) (.slice ha hl.length hc) = dc at *
    go_wp2_with fail
    refine (stLoad_nil w14 dc.toArray).mono ?_
    rintro e w15 ⟨rfl, hB15⟩
    have HB15 := Lib.hid (HB14.out.trans (hB15.mono HB14.out.size))
    clear hB15
    go_wp2_with fail
    refine (wakes25_any w15 (HF.out.below HB15.out hw) (Nat.lt_of_lt_of_le hw HB15.out.size)).mono ?_
    rintro e wv ⟨rfl, hBv⟩
    have HBv := Lib.hid (HB15.out.trans (hBv.mono HB15.out.size))
    clear hBv
    go_wp2_with fail
    go_ret
    exact ⟨rfl, HBv.out⟩
end Go.Proofs.YtpiogibkleaaaaaGreatDoor
