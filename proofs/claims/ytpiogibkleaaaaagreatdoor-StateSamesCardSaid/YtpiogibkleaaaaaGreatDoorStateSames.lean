/- the law StateSames: the walk -/
import Derived.Test.YtpiogibkleaaaaaGreatDoorSsSame
import Derived.Test.YtpiogibkleaaaaaGreatDoorPkSc
import Derived.Test.YtpiogibkleaaaaaGreatDoorSsLarge
import Derived.Test.YtpiogibkleaaaaaGreatDoorPkW
namespace Esch
open Go Go.RowKit
theorem rangeAt_below {w w' : World} {b : Nat} {l : List Value} (h : w.rangeAt b 0 l) (hB : Below w.heap.size w w') : w'.rangeAt b 0 l := fun j v hv => below_at hB (h j v hv) (cell_lt (h j v hv))
theorem rangeAt_new (w : World) (T : TypeId) (l : List Value) : (w.alloc (.cells l.toArray T)).rangeAt w.heap.size 0 l := fun j v hv => by
  have hb : (w.alloc (.cells l.toArray T)).heap[w.heap.size]? = some (.cells l.toArray T) := heap_alloc_new _ _
  rw [Nat.zero_add]
  unfold World.cell?
  simp only [hb]
  simpa using hv
/-- an argument's dump, as it lies: nothing is known of its lengths -/
structure DmW (w : World) (x : DmC) : Prop where
  ino : RwAt w (fun _ => True) 6 x.ik.length x.ia (x.ik.flatMap InC.cells)
  pts : ∀ y ∈ x.ik, PtsAt w (fun _ => True) y.pa y.ps ∧ (y.pa = none → y.pc = 0) ∧ y.ps.length ≤ y.pc ∧ y.pc ≤ 9223372036854775807
  nam : RwAt w (fun _ => True) 3 x.nl.length x.na (x.nl.flatMap enC)
  hdl : RwAt w (fun _ => True) 3 x.hl.length x.ha (x.hl.flatMap hdC)
  nn : x.na = none → x.nc = 0
  hn : x.ha = none → x.hc = 0
theorem DmW.ok {w w' : World} {x : DmC} (h : DmW w x) (hB : Below w.heap.size w w') (hl : (x.ik.length ≤ 100 ∧ ∀ y ∈ x.ik, y.ps.length ≤ 100) ∧ x.nl.length ≤ 300 ∧ x.hl.length ≤ 300) : DmOk w' (fun _ => True) x :=
  ⟨⟨h.ino.below' hB, fun y hy => ⟨(h.pts y hy).1.below' hB, (h.pts y hy).2.1, (h.pts y hy).2.2, Nat.le_trans (hl.1.2 y hy) (by decide)⟩⟩, h.nam.below' hB, h.hdl.below' hB, by omega, by omega, by omega⟩
end Esch
namespace Go.Proofs.YtpiogibkleaaaaaGreatDoor
open Go.RowKit Esch Go.Shelf

set_option linter.unusedSimpArgs false
set_option linter.unusedVariables false
theorem RStIn.below {w w' : World} {B q p20 p25 p27 p13 p18 : Nat} {oa : Option Addr} {oc : Nat} {ok : List InC} {ra : Option Addr} {rc : Nat} {ta : Option Addr} {tc : Nat} {x : DmC} (h : RStIn w B q p20 p25 p27 p13 p18 oa oc ok ra rc ta tc x) (hB : Below w.heap.size w w') : RStIn w' B q p20 p25 p27 p13 p18 oa oc ok ra rc ta tc x :=
  ⟨h.fq.below hB, h.f20.below hB, h.f13.below hB, h.f18.below hB, h.f25.below hB, h.f27.below hB, h.fA.below' hB, h.fAv, h.fB.below' hB, h.fC.below' hB⟩
theorem dm37 (x : DmC) : (Tryz.prog.info? 31).map (·.size) = some x.cells.length := by rw [show x.cells.length = 37 from rfl]; kernel_rfl
def SamesPost (w : World) (e : Ending) (w' : World) : Prop := e = .returned (.bool true) ∧ Below w.heap.size w w'
set_option maxRecDepth 100000 in
set_option maxHeartbeats 8000000 in
theorem stateSames_walk (w : World) (hf : FieldsAt w) (hw : 0 < w.heap.size) (x y : DmC) (hx : DmW w x) (hy : DmW w y) : Calls Tryz.prog 3 #[.agg x.cells.toArray, .agg y.cells.toArray] w (SamesPost w) := by
  have HF := Lib.hid hf
  obtain ⟨sm, hsm⟩ : ∃ sm, sm = x.same y := ⟨_, rfl⟩
  have HSM := Lib.hid hsm
  clear hsm
  obtain ⟨W2, hW2⟩ : ∃ W2, W2 = (w.alloc (.cells x.cells.toArray 31)).alloc (.cells y.cells.toArray 31) := ⟨_, rfl⟩
  have hB2 : Below w.heap.size w W2 := by rw [hW2]; exact belC (Below.refl _ _)
  have hr1 : W2.rangeAt w.heap.size 0 x.cells := by rw [hW2]; exact rangeAt_below (rangeAt_new w 31 x.cells) (by exact belC (Below.refl _ _))
  have hr2 : W2.rangeAt (w.heap.size + 1) 0 y.cells := by
    have h := rangeAt_new (w.alloc (.cells x.cells.toArray 31)) 31 y.cells
    rw [show (w.alloc (.cells x.cells.toArray 31)).heap.size = w.heap.size + 1 by simp] at h
    rw [hW2]; exact h
  have HX := Lib.hid hx
  have HY := Lib.hid hy
  have HR1 := Lib.hid hr1
  have HR2 := Lib.hid hr2
  have HB2 := Lib.hid hB2
  have HW2 := Lib.hid hW2
  have hl1 := large25_any W2 _ _ x (hx.ino.below' hB2) (hx.nam.below' hB2)
  clear hf hx hy hr1 hr2 hB2 hW2
  go_enter Tryz.func3, Tryz.ntmps3
  go_wp2_with (refine wpList_load_mid (by rfl) 31 _ (by rfl) w.heap.size 0 (by rfl) x.cells _ (by rw [← HW2.out]; exact HR1.out) Tryz.underlying31 rfl (dm37 _) ?_)
  rw [← HW2.out]
  refine hl1.mono ?_
  clear hl1
  rintro e w3 ⟨r, rfl, hr, hB3⟩
  have HR1 := Lib.hid (rangeAt_below HR1.out hB3)
  have HR2 := Lib.hid (rangeAt_below HR2.out hB3)
  have HB3 := Lib.hid (HB2.out.trans (hB3.mono HB2.out.size))
  clear hB3 HW2
  cases r
  rotate_left 1
  · clear hr
    go_wp2_with fail
    refine (wakes25_any w3 (HF.out.below HB3.out hw) (Nat.lt_of_lt_of_le hw HB3.out.size)).mono ?_
    rintro e wv ⟨rfl, hBv⟩
    have HBv := Lib.hid (HB3.out.trans (hBv.mono HB3.out.size))
    clear hBv
    go_wp2_with fail
    go_ret
    exact ⟨rfl, HBv.out⟩
  have HL1 := Lib.hid (hr rfl)
  clear hr
  have hl2 := large25_any w3 _ _ y (HY.out.ino.below' HB3.out) (HY.out.nam.below' HB3.out)
  go_wp2_with (refine BigFrame.wpList_want (by rfl) (fun K hK => wp_load_mid 31 _ (by rfl) (w.heap.size + 1) 0 (by rfl) y.cells _ HR2.out Tryz.underlying31 rfl (dm37 _) (hK _ _ ?_)))
  refine hl2.mono ?_
  clear hl2
  rintro e w4 ⟨r, rfl, hr, hB4⟩
  have HR1 := Lib.hid (rangeAt_below HR1.out hB4)
  have HR2 := Lib.hid (rangeAt_below HR2.out hB4)
  have HB4 := Lib.hid (HB3.out.trans (hB4.mono HB3.out.size))
  clear hB4
  cases r
  rotate_left 1
  · clear hr
    go_wp2_with fail
    refine (wakes25_any w4 (HF.out.below HB4.out hw) (Nat.lt_of_lt_of_le hw HB4.out.size)).mono ?_
    rintro e wv ⟨rfl, hBv⟩
    have HBv := Lib.hid (HB4.out.trans (hBv.mono HB4.out.size))
    clear hBv
    go_wp2_with fail
    go_ret
    exact ⟨rfl, HBv.out⟩
  have HL2 := Lib.hid (hr rfl)
  clear hr
  have hBd : Below w4.heap.size w4 w4.drew := (Below.refl _ _).drew
  have HS0 := Lib.hid (And.intro (And.intro (rangeAt_below HR1.out hBd) (rangeAt_below HR2.out hBd)) hBd)
  have HOX : Hid (∀ W, Below w4.heap.size w4 W → DmOk W (fun _ => True) x) := Lib.hid (fun W hB => HX.out.ok (HB4.out.trans (hB.mono HB4.out.size)) HL1.out)
  have HOY : Hid (∀ W, Below w4.heap.size w4 W → DmOk W (fun _ => True) y) := Lib.hid (fun W hB => HY.out.ok (HB4.out.trans (hB.mono HB4.out.size)) HL2.out)
  clear hBd
  go_wp2_with fail
  refine wp_region_held_drew (S := fun W => (W.rangeAt w.heap.size 0 x.cells ∧ W.rangeAt (w.heap.size + 1) 0 y.cells) ∧ Below w4.heap.size w4 W) (by kernel_rfl) HS0.out (fun hHeld => ?_)
  refine takeL 0 ?_ (by (simp only [opL, List.getElem?_toArray, List.getElem?_cons_succ, List.getElem?_cons_zero, Option.getD_some]; exact ⟨_, yieldsIf_load_mid (by rfl) 31 _ (by rfl) w.heap.size 0 (by rfl) x.cells _ (fun W h => h.1.1) Tryz.underlying31 rfl (dm37 _), fun _ _ _ h => h, (by simp only [Act.put, List.setIfInBounds_toArray, List.set_cons_zero, List.set_cons_succ]; rfl), rfl⟩))
  refine takeL 1 ?_ (by (simp only [opL, List.getElem?_toArray, List.getElem?_cons_succ, List.getElem?_cons_zero, Option.getD_some]; exact ⟨_, yieldsIf_load_mid (by rfl) 31 _ (by rfl) (w.heap.size + 1) 0 (by rfl) y.cells _ (fun W h => h.1.2) Tryz.underlying31 rfl (dm37 _), fun _ _ _ h => h, (by simp only [Act.put, List.setIfInBounds_toArray, List.set_cons_zero, List.set_cons_succ]; rfl), rfl⟩))
  refine takeL 3 ?_ (by (simp only [opL, List.getElem?_toArray, List.getElem?_cons_succ, List.getElem?_cons_zero, Option.getD_some]; exact ⟨_, yieldsIf_load_mid (by rfl) 31 _ (by rfl) w.heap.size 0 (by rfl) x.cells _ (fun W h => h.1.1) Tryz.underlying31 rfl (dm37 _), fun _ _ _ h => h, (by simp only [Act.put, List.setIfInBounds_toArray, List.set_cons_zero, List.set_cons_succ]; rfl), rfl⟩))
  refine takeL 5 ?_ (by (simp only [opL, List.getElem?_toArray, List.getElem?_cons_succ, List.getElem?_cons_zero, Option.getD_some]; exact ⟨_, yieldsIf_load_mid (by rfl) 31 _ (by rfl) (w.heap.size + 1) 0 (by rfl) y.cells _ (fun W h => h.1.2) Tryz.underlying31 rfl (dm37 _), fun _ _ _ h => h, (by simp only [Act.put, List.setIfInBounds_toArray, List.set_cons_zero, List.set_cons_succ]; rfl), rfl⟩))
  refine wpAnyH_ready (rs := [2]) (by kernel_rfl) (by simp) ?_
  refine AllReadyH.cons (o := _) rfl (fun K hK => ?_) AllReadyH.nil
  go_simp
  have hsame := stSame_any _ _ _ x y (HOX.out _ hHeld.2) (HOY.out _ hHeld.2)
  rw [← HSM.out] at hsame
  refine hsame.mono ?_
  clear hsame
  rintro e w5 ⟨rfl, hBB⟩
  have hb2 := hHeld.2.trans (hBB.mono hHeld.2.size)
  have hKA := And.intro (And.intro (rangeAt_below hHeld.1.1 hBB) (rangeAt_below hHeld.1.2 hBB)) hb2
  try go_wp2_with fail
  refine hK.out _ _ hKA (fun hHeld => ?_)
  clear hK K hKA hb2
  try simp only [Act.put, List.setIfInBounds_toArray, List.set_cons_zero, List.set_cons_succ]
  clear hBB
  refine wpAnyH_ready (rs := [4]) (by kernel_rfl) (by simp) ?_
  refine AllReadyH.cons (o := _) rfl (fun K hK => ?_) AllReadyH.nil
  go_simp
  refine (own25_any _ _ x (HOX.out _ hHeld.2)).mono ?_
  rintro e w6 ⟨q1, a201, a251, a271, a131, a181, oa1, oc1, ok1, ra1, rc1, ta1, tc1, rfl, hS1, hBB⟩
  have hb2 := hHeld.2.trans (hBB.mono hHeld.2.size)
  have hKA := And.intro (And.intro (rangeAt_below hHeld.1.1 hBB) (rangeAt_below hHeld.1.2 hBB)) hb2
  try go_wp2_with fail
  refine hK.out _ _ hKA (fun hHeld => ?_)
  clear hK K hKA hb2
  try simp only [Act.put, List.setIfInBounds_toArray, List.set_cons_zero, List.set_cons_succ]
  have HS1 := Lib.hid hS1
  clear hBB hS1
  refine wpAnyH_ready (rs := [6]) (by kernel_rfl) (by simp) ?_
  refine AllReadyH.cons (o := _) rfl (fun K hK => ?_) AllReadyH.nil
  go_simp
  refine (own25_any _ _ y (HOY.out _ hHeld.2)).mono ?_
  rintro e w7 ⟨q2, a202, a252, a272, a132, a182, oa2, oc2, ok2, ra2, rc2, ta2, tc2, rfl, hS2, hBB⟩
  have hb2 := hHeld.2.trans (hBB.mono hHeld.2.size)
  have hKA := And.intro (And.intro (rangeAt_below hHeld.1.1 hBB) (rangeAt_below hHeld.1.2 hBB)) hb2
  try go_wp2_with fail
  refine hK.out _ _ hKA (fun hHeld => ?_)
  clear hK K hKA hb2
  try simp only [Act.put, List.setIfInBounds_toArray, List.set_cons_zero, List.set_cons_succ]
  have HS1 := Lib.hid (HS1.out.below hBB)
  have HS2 := Lib.hid hS2
  clear hBB hS2
  refine wpAnyH_ready (rs := [7]) (by kernel_rfl) (by simp) ?_
  refine AllReadyH.cons (o := _) rfl (fun K hK => ?_) AllReadyH.nil
  go_simp
  have hrs := rSame25_any _ _ _ x y q1 a201 a251 a271 a131 a181 oa1 oc1 ok1 ra1 rc1 ta1 tc1 q2 a202 a252 a272 a132 a182 oa2 oc2 ok2 ra2 rc2 ta2 tc2 HS1.out HS2.out (HOX.out _ hHeld.2).i1 (HOX.out _ hHeld.2).n1 (HOX.out _ hHeld.2).h1
  rw [← HSM.out] at hrs
  refine hrs.mono ?_
  clear hrs
  rintro e w8 ⟨rfl, hBB⟩
  have hb2 := hHeld.2.trans (hBB.mono hHeld.2.size)
  have hKA := And.intro (And.intro (rangeAt_below hHeld.1.1 hBB) (rangeAt_below hHeld.1.2 hBB)) hb2
  try go_wp2_with fail
  refine hK.out _ _ hKA (fun hHeld => ?_)
  clear hK K hKA hb2
  try simp only [Act.put, List.setIfInBounds_toArray, List.set_cons_zero, List.set_cons_succ]
  clear hBB HS1 HS2
  refine takeL 8 ?_
  refine takeL 9 ?_
  refine takeL 10 ?_ (by (simp only [opL, List.getElem?_toArray, List.getElem?_cons_succ, List.getElem?_cons_zero, Option.getD_some]; exact ⟨_, yieldsIf_load_mid (by rfl) 31 _ (by rfl) w.heap.size 0 (by rfl) x.cells _ (fun W h => h.1.1) Tryz.underlying31 rfl (dm37 _), fun _ _ _ h => h, (by simp only [Act.put, List.setIfInBounds_toArray, List.set_cons_zero, List.set_cons_succ]; rfl), rfl⟩))
  refine takeL 11 ?_ (by (simp only [opL, List.getElem?_toArray, List.getElem?_cons_succ, List.getElem?_cons_zero, Option.getD_some]; exact ⟨_, yieldsIf_load_mid (by rfl) 31 _ (by rfl) w.heap.size 0 (by rfl) x.cells _ (fun W h => h.1.1) Tryz.underlying31 rfl (dm37 _), fun _ _ _ h => h, (by simp only [Act.put, List.setIfInBounds_toArray, List.set_cons_zero, List.set_cons_succ]; rfl), rfl⟩))
  refine wpAnyH_ready (rs := [12]) (by kernel_rfl) (by simp) ?_
  refine AllReadyH.cons (o := _) rfl (fun K hK => ?_) AllReadyH.nil
  go_simp
  refine (cop25_any _ _ x (HOX.out _ hHeld.2) HX.out.nn HX.out.hn).mono ?_
  rintro e w9 ⟨z, rfl, hz, hsz, hBB⟩
  have hb2 := hHeld.2.trans (hBB.mono hHeld.2.size)
  have hKA := And.intro (And.intro (rangeAt_below hHeld.1.1 hBB) (rangeAt_below hHeld.1.2 hBB)) hb2
  try go_wp2_with fail
  refine hK.out _ _ hKA (fun hHeld => ?_)
  clear hK K hKA hb2
  try simp only [Act.put, List.setIfInBounds_toArray, List.set_cons_zero, List.set_cons_succ]
  have HZ := Lib.hid hz
  have HSZ := Lib.hid hsz
  clear hBB hz hsz
  refine wpAnyH_ready (rs := [13]) (by kernel_rfl) (by simp) ?_
  refine AllReadyH.cons (o := _) rfl (fun K hK => ?_) AllReadyH.nil
  go_simp
  have hsame := stSame_any _ _ _ x z (HOX.out _ hHeld.2) HZ.out
  rw [HSZ.out] at hsame
  refine hsame.mono ?_
  clear hsame
  rintro e w10 ⟨rfl, hBB⟩
  have hb2 := hHeld.2.trans (hBB.mono hHeld.2.size)
  have hKA := And.intro (And.intro (rangeAt_below hHeld.1.1 hBB) (rangeAt_below hHeld.1.2 hBB)) hb2
  try go_wp2_with fail
  refine hK.out _ _ hKA (fun hHeld => ?_)
  clear hK K hKA hb2
  try simp only [Act.put, List.setIfInBounds_toArray, List.set_cons_zero, List.set_cons_succ]
  clear hBB
  refine takeL 14 ?_
  refine takeL 15 ?_
  refine wpAnyH_ready (rs := [16]) (by kernel_rfl) (by simp) ?_
  refine AllReadyH.cons (o := _) rfl (fun K hK => ?_) AllReadyH.nil
  go_simp
  have hBw : Below w.heap.size w _ := HB4.out.trans (hHeld.2.mono HB4.out.size)
  refine (wakes25_any _ (HF.out.below hBw hw) (Nat.lt_of_lt_of_le hw hBw.size)).mono ?_
  rintro e w11 ⟨rfl, hBB⟩
  have hb2 := hHeld.2.trans (hBB.mono hHeld.2.size)
  have hKA := And.intro (And.intro (rangeAt_below hHeld.1.1 hBB) (rangeAt_below hHeld.1.2 hBB)) hb2
  try go_wp2_with fail
  refine hK.out _ _ hKA (fun hHeld => ?_)
  clear hK K hKA hb2
  try simp only [Act.put, List.setIfInBounds_toArray, List.set_cons_zero, List.set_cons_succ]
  clear hBB
  refine takeL 17 ?_
  refine takeL 18 ?_
  have HBF := Lib.hid (HB4.out.trans (hHeld.2.mono HB4.out.size))
  refine wpAnyH_done (by kernel_rfl) ?_ _
  clear hHeld hBw
  go_wp2_with fail
  go_ret
  exact ⟨rfl, HBF.out⟩
end Go.Proofs.YtpiogibkleaaaaaGreatDoor
