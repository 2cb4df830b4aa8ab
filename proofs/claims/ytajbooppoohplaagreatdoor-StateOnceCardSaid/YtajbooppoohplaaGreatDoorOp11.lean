/- package op: Decode -/
import Derived.Test.YtajbooppoohplaaGreatDoorMac
import Derived.Test.YtajbooppoohplaaGreatDoorPkOpC
set_option maxRecDepth 100000
set_option maxHeartbeats 8000000
namespace Esch
open Go Go.RowKit
def OpS.strip (o : OpS) : OpS := o.withM none o.ml 0
theorem put_strip (x o : OpS) (c : UInt8) : (x.put o c).strip = x.strip.put o.strip c := by
 unfold OpS.put
 repeat' split
 all_goals rfl
theorem foldl_put_strip (x : OpS) : ∀ (l : List UInt8) (o : OpS), (l.foldl x.put o).strip = l.foldl x.strip.put o.strip
  | [], _ => rfl
  | c :: l, o => by rw [List.foldl_cons, foldl_put_strip x l, put_strip, List.foldl_cons]
theorem kept_strip (x : OpS) : x.kept.strip = x.strip.kept := by
 unfold OpS.kept
 rw [foldl_put_strip]
 rfl
theorem alike_strip (x y : OpS) : x.alike y = x.strip.alike y.strip := rfl
theorem strip_strip (x : OpS) : x.strip.strip = x.strip := rfl
theorem good_strip (x : OpS) (mv : List Mv) : x.good mv = x.strip.good mv := by
 unfold OpS.good
 rw [alike_strip x, kept_strip, alike_strip x.strip, kept_strip x.strip, strip_strip]
 rfl
/-- is what was read good? -/
def goodV (o : OpS) (mv : List Mv) : Bool := (o.withM none mv.length 0).good mv
theorem goodV_eq (o : OpS) (mv : List Mv) (mp : Option Addr) (mc : Nat) : (o.withM mp mv.length mc).good mv = goodV o mv := good_strip _ _
end Esch
namespace Go.Proofs.YtajbooppoohplaaGreatDoor
open Go.RowKit Esch

abbrev DSt := (OpS × List Mv) × ByteArray × Bool
def getAll (l : List UInt8) (st : DSt) : DSt := l.foldl (fun st c => getF st.1.1 st.1.2 st.2.1 st.2.2 c) st
def decHead (s : ByteArray) : DSt :=
  let a := unNum s false 1
  let b := unNum a.2.1 a.2.2 1
  let c := unNum b.2.1 b.2.2 4
  ((opN b.1 c.1 a.1, []), c.2)
def decRaw (s : ByteArray) : DSt := if knownB (decHead s).1.1.kind = true then getAll (fldL (decHead s).1.1.kind.toNat) (decHead s) else decHead s
/-- the record of a text -/
def decOp (s : ByteArray) : Option (OpS × List Mv) := if (decRaw s).2.2 = true ∨ 0 < (decRaw s).2.1.size then none else if goodV (decRaw s).1.1 (decRaw s).1.2 = true then some (decRaw s).1 else none
theorem getF_len (o : OpS) (mv : List Mv) (s : ByteArray) (bad : Bool) (c : UInt8) : (getF o mv s bad c).1.2.length ≤ mv.length + 17 := by
 unfold getF
 repeat' split
 all_goals try exact Nat.le_add_right _ _
 rw [unMvs_len]
 omega
theorem getF_any (w : World) (ub ob : Nat) (S : Nat → Prop) (o : OpS) (mv : List Mv) (s : ByteArray) (bad : Bool) (hU : UnpAt w ub s bad) (hO : OpBox w ob S o mv) (hne : ub ≠ ob) (hSu : ¬ S ub) (hSo : ¬ S ob) (hml : mv.length ≤ 1000) (c : UInt8) (hc : c ∈ letters) :
    Calls Tryz.prog 72 #[.pointer (some ⟨ub, 0, none⟩), .int .u8 c.toNat, .pointer (some ⟨ob, 0, none⟩)] w (GetFPost w ub ob S (getF o mv s bad c)) := by
 simp only [letters, List.mem_cons, List.not_mem_nil, or_false] at hc
 rcases hc with rfl | rfl | rfl | rfl | rfl | rfl | rfl | rfl | rfl
 · exact getP_any w ub ob S o mv s bad hU hO hne hSu hSo
 · exact getT_any w ub ob S o mv s bad hU hO hne hSu hSo
 · exact getS_any w ub ob S o mv s bad hU hO hne hSu hSo
 · exact getH_any w ub ob S o mv s bad hU hO hne hSu hSo
 · exact getO_any w ub ob S o mv s bad hU hO hne hSu hSo
 · exact getD_any w ub ob S o mv s bad hU hO hne hSu hSo
 · exact getK_any w ub ob S o mv s bad hU hO hne hSu hSo
 · exact getI_any w ub ob S o mv s bad hU hO hne hSu hSo
 · exact getM_any w ub ob S o mv s bad hU hO hne hSu hSo hml
def DecPost (w : World) (r : Option (OpS × List Mv)) (e : Ending) (w' : World) : Prop :=
  Below w.heap.size w w' ∧ match r with
  | none => e = .returned (.tuple #[.agg (opN 0 0 0).cells.toArray, .int .i64 11])
  | some r => ∃ mp mc, e = .returned (.tuple #[.agg (r.1.withM mp r.2.length mc).cells.toArray, .int .i64 0]) ∧ OpIn w' (r.1.withM mp r.2.length mc) r.2
def DecRel (w0 : World) (ub ob : Nat) (l : List UInt8) (st0 : DSt) (g : Nat) (v : Value) (wr : World) : Prop :=
  ∃ (i : Nat) (st : DSt), g = l.length - i ∧ i ≤ l.length ∧ v = .int .i64 i ∧ st = getAll (l.take i) st0 ∧ st.1.2.length ≤ 17 * i ∧ UnpAt wr ub st.2.1 st.2.2 ∧ OpBox wr ob (growI none' w0 wr) st.1.1 st.1.2 ∧ Mod (fun k => k = ub ∨ k = ob) w0 wr

theorem decode_any (w : World) (s : ByteArray) (hs : s.size ≤ 9223372036854775807) (hf : FieldsAt w) (hw : 0 < w.heap.size) : Calls Tryz.prog 29 #[.string s] w (DecPost w (decOp s)) := by
 obtain ⟨fin, hfin⟩ : ∃ fin, fin = decOp s := ⟨_, rfl⟩
 rw [← hfin]
 have HFIN := Lib.hid hfin
 have HF := Lib.hid hf
 clear hfin hf
 go_enter Tryz.func29, Tryz.ntmps29
 go_wp2_with fail
 obtain ⟨V0, hV0⟩ : ∃ V0, V0 = w.alloc (.cells #[.int .i64 0, .int .i64 0, .int .i64 0, .string ⟨#[]⟩, .string ⟨#[]⟩, .int .i64 0, .int .i64 0, .int .i64 0, .string ⟨#[]⟩, .int .i64 0, .int .i64 0, .slice none 0 0] 31) := ⟨_, rfl⟩
 have hB0 : Below w.heap.size w V0 := by rw [hV0]; exact belC (Below.refl _ _)
 have hz0 : V0.heap.size = w.heap.size + 1 := by rw [hV0]; simp
 rw [← hV0]
 have HB0 := Lib.hid hB0
 have HZ0 := Lib.hid hz0
 have HC0 : Hid (∀ j, j < 12 → V0.cell? ⟨w.heap.size, j, none⟩ = (opN 0 0 0).cells[j]?) := Lib.hid (fun j hj => by
   have : j = 0 ∨ j = 1 ∨ j = 2 ∨ j = 3 ∨ j = 4 ∨ j = 5 ∨ j = 6 ∨ j = 7 ∨ j = 8 ∨ j = 9 ∨ j = 10 ∨ j = 11 := by omega
   rcases this with rfl | rfl | rfl | rfl | rfl | rfl | rfl | rfl | rfl | rfl | rfl | rfl <;> (rw [hV0]; go_simp; rfl))
 have HR0 : Hid (∀ j, V0.frozen? ⟨w.heap.size, j, none⟩ = false) := Lib.hid (fun j => by rw [hV0]; go_simp)
 clear hV0 hB0 hz0
 refine (open_any V0 s hs).mono ?_
 rintro e w1 ⟨ub, rfl, hU1, hub, hB1⟩
 have HB1 := Lib.hid (HB0.out.trans (hB1.mono HB0.out.size))
 have HO1 := Lib.hid (show OpAt w1 w.heap.size (opN 0 0 0) from ⟨fun j hj => (hB1.cell (p := ⟨w.heap.size, j, none⟩) (by have := HZ0.out; show w.heap.size < _; omega)).trans (HC0.out j hj), fun j => (hB1.frozen (p := ⟨w.heap.size, j, none⟩) (by have := HZ0.out; show w.heap.size < _; omega)).trans (HR0.out j)⟩)
 have HUB := Lib.hid (show w.heap.size < ub by have := HZ0.out; omega)
 have hul1 := cell_lt hU1.c0
 clear hB1 hub HC0 HR0
 go_wp2_with fail
 have hnn : Calls Tryz.prog 70 #[.pointer (some ⟨ub, 0, none⟩), .int .i64 1] w1 (NumPost w1 ub (unNum s false 1)) := unNum_any w1 ub s false 1 rfl hU1
 obtain ⟨r1, hr1⟩ : ∃ r, r = unNum s false 1 := ⟨_, rfl⟩
 rw [← hr1] at hnn
 have HR1 := Lib.hid hr1
 clear hr1
 refine hnn.mono ?_
 clear hnn
 rintro e w2 ⟨rfl, hU2, hM2⟩
 have hul2 := cell_lt hU2.c0
 go_wp2_with fail
 obtain ⟨V2, hV2⟩ : ∃ V2, V2 = w2.alloc (.cells #[.int .i64 0, .int .i64 0, .int .i64 r1.1, .string ⟨#[]⟩, .string ⟨#[]⟩, .int .i64 0, .int .i64 0, .int .i64 0, .string ⟨#[]⟩, .int .i64 0, .int .i64 0, .slice none 0 0] 31) := ⟨_, rfl⟩
 rw [← hV2]
 obtain ⟨ob, hob⟩ : ∃ ob, ob = w2.heap.size := ⟨_, rfl⟩
 have hO2 : OpAt V2 ob (opN 0 0 r1.1) := ⟨fun j hj => (by
   have : j = 0 ∨ j = 1 ∨ j = 2 ∨ j = 3 ∨ j = 4 ∨ j = 5 ∨ j = 6 ∨ j = 7 ∨ j = 8 ∨ j = 9 ∨ j = 10 ∨ j = 11 := by omega
   rcases this with rfl | rfl | rfl | rfl | rfl | rfl | rfl | rfl | rfl | rfl | rfl | rfl <;> (rw [hV2, hob]; go_simp; rfl)), fun j => by rw [hV2, hob]; go_simp⟩
 have hMV : Mod (· = ub) w1 V2 := by rw [hV2]; exact hM2.alloc _
 have hUV : UnpAt V2 ub r1.2.1 r1.2.2 := by rw [hV2]; exact hU2.mod (F := none') ((Mod.refl none' _).alloc _) id
 have hne : ub ≠ ob := by rw [hob]; omega
 have hneI : ¬ ob = ub := fun e => hne e.symm
 have HOB := Lib.hid (show w1.heap.size ≤ ob by rw [hob]; exact hM2.size)
 have HV2 := Lib.hid hV2
 rw [← hob]
 clear hV2 hob hM2 hU2
 have hnn : Calls Tryz.prog 70 #[.pointer (some ⟨ub, 0, none⟩), .int .i64 1] V2 (NumPost V2 ub (unNum r1.2.1 r1.2.2 1)) := unNum_any V2 ub r1.2.1 r1.2.2 1 rfl hUV
 obtain ⟨r2, hr2⟩ : ∃ r, r = unNum r1.2.1 r1.2.2 1 := ⟨_, rfl⟩
 rw [← hr2] at hnn
 have HR2 := Lib.hid hr2
 clear hr2
 refine hnn.mono ?_
 clear hnn
 rintro e w3 ⟨rfl, hU3, hM3⟩
 go_wp2_with fail
 have hnn : Calls Tryz.prog 70 #[.pointer (some ⟨ub, 0, none⟩), .int .i64 4] w3 (NumPost w3 ub (unNum r2.2.1 r2.2.2 4)) := unNum_any w3 ub r2.2.1 r2.2.2 4 rfl hU3
 obtain ⟨r3, hr3⟩ : ∃ r, r = unNum r2.2.1 r2.2.2 4 := ⟨_, rfl⟩
 rw [← hr3] at hnn
 have HR3 := Lib.hid hr3
 clear hr3
 refine hnn.mono ?_
 clear hnn
 rintro e w4 ⟨rfl, hU4, hM4⟩
 have hO4 := (hO2.mod hM3 hneI).mod hM4 hneI
 have a0 : w4.cell? ⟨ob, 0, none⟩ = some (.int .i64 0) := hO4.1 0 (by decide)
 have a1 : w4.cell? ⟨ob, 1, none⟩ = some (.int .i64 0) := hO4.1 1 (by decide)
 have a2 : w4.cell? ⟨ob, 2, none⟩ = some (.int .i64 r1.1) := hO4.1 2 (by decide)
 have b0 := hO4.2 0
 have b1 := hO4.2 1
 have hol := cell_lt a0
 obtain ⟨W5, hW5⟩ : ∃ W5, W5 = (w4.setCell ⟨ob, 0, none⟩ (.int .i64 r2.1)).setCell ⟨ob, 1, none⟩ (.int .i64 r3.1) := ⟨_, rfl⟩
 have hO5 : OpAt W5 ob (opN r2.1 r3.1 r1.1) := by
  rw [hW5]
  exact (hO4.set (o' := opN r2.1 0 r1.1) 0 _ (by decide) rfl).set 1 _ (by decide) rfl
 have hM45 : Mod (· = ob) w4 W5 := by rw [hW5]; exact ((Mod.refl (· = ob) w4).setCellAt (fun _ => rfl) _).setCellAt (fun _ => rfl) _
 have hU5 : UnpAt W5 ub r3.2.1 r3.2.2 := hU4.mod hM45 hne
 have hM15 : Mod (fun k => k = ub ∨ k = ob) w1 W5 := (((hMV.trans (hM3.trans hM4)).mono fun k _ h => Or.inl h).trans (hM45.mono fun k _ h => Or.inr h))
 have HB5 := Lib.hid (HB1.out.trans (hM15.below_at HB1.out.size (fun k hk e => by have := HUB.out; have := HOB.out; have := HB1.out.size; omega)))
 have hsz : W5.heap.size = w4.heap.size := by rw [hW5]; simp
 have hwo : w.heap.size < w1.heap.size := by have := HUB.out; omega
 have HR5 := Lib.hid (HO1.out.mod hM15 (fun e => by have := HUB.out; have := HOB.out; omega))
 have HS5 := Lib.hid (show w.heap.size < W5.heap.size by have := hM15.size; omega)
 have HU5 := Lib.hid hU5
 have HO5 : Hid (OpBox W5 ob none' (opN r2.1 r3.1 r1.1) []) := Lib.hid ⟨none, 0, hO5, GRowAt.nil _ _ _ _⟩
 have hc2 : W5.cell? ⟨ob, 2, none⟩ = some (.int .i64 r1.1) := hO5.1 2 (by decide)
 have hol5 := cell_lt hc2
 have HW5 := Lib.hid hW5
 have HHD : Hid (decHead s = ((opN r2.1 r3.1 r1.1, []), r3.2)) := Lib.hid (by
   unfold decHead
   simp only [← HR1.out, ← HR2.out, ← HR3.out])
 have hub5 : ub < W5.heap.size := cell_lt hU5.c0
 clear hW5 hO5 hM45 hU5 hO4 hM3 hM4 hU3 hU4 hUV hO2 hMV hM15 hU1 hsz HR1 HR2 HR3 hul1 hul2
 obtain ⟨c3, sz5, bd5⟩ := r3
 simp only at HU5 HHD HO5
 go_wp2_with fail
 rw [← HW5.out]
 refine (known_any _ _).mono ?_
 rintro e wk ⟨rfl, hwk⟩
 obtain rfl := hwk.symm
 clear a0 a1 a2 b0 b1 hol
 obtain ⟨k, hk⟩ : ∃ k, k = r1.1 := ⟨_, rfl⟩
 obtain ⟨kb, hkb⟩ : ∃ kb, kb = (decide (0 < (k : Int)) && decide ((k : Int) < 15)) := ⟨_, rfl⟩
 rw [← hk] at HO5 HHD hc2 ⊢
 rw [← hkb]
 cases kb
 · have HDR : Hid (decRaw s = ((opN r2.1 c3 k, []), (sz5, bd5))) := Lib.hid (by
     unfold decRaw
     rw [HHD.out, if_neg (by show ¬ knownB k = true; unfold knownB; rw [← hkb]; simp)])
   have HOX : Hid (OpBox W5 ob (growI none' W5 W5) (opN r2.1 c3 k) []) := Lib.hid (HO5.out.wide (fun k hk => Or.inl hk))
   have HLX : Hid (([] : List Mv).length ≤ 100) := Lib.hid (by simp)
   obtain ⟨o5, ho5⟩ : ∃ o5, o5 = opN r2.1 c3 k := ⟨_, rfl⟩
   obtain ⟨mv5, hmv5⟩ : ∃ mv5 : List Mv, mv5 = [] := ⟨_, rfl⟩
   rw [← ho5, ← hmv5] at HOX HDR
   rw [← hmv5] at HLX
   clear hkb ho5 hmv5 HO5 HHD hc2
   have hoX : ob < W5.heap.size := by
    obtain ⟨mp, mc, h1, h2⟩ := HOX.out
    exact cell_lt (h1.1 0 (by decide))
   have hwX : w.heap.size < W5.heap.size := cell_lt (HR5.out.1 0 (by decide))
   have z0 : W5.cell? ⟨w.heap.size, 0, none⟩ = some (.int .i64 0) := HR5.out.1 0 (by decide)
   have t0 : W5.frozen? ⟨w.heap.size, 0, none⟩ = false := HR5.out.2 0
   have z1 : W5.cell? ⟨w.heap.size, 1, none⟩ = some (.int .i64 0) := HR5.out.1 1 (by decide)
   have t1 : W5.frozen? ⟨w.heap.size, 1, none⟩ = false := HR5.out.2 1
   have z2 : W5.cell? ⟨w.heap.size, 2, none⟩ = some (.int .i64 0) := HR5.out.1 2 (by decide)
   have t2 : W5.frozen? ⟨w.heap.size, 2, none⟩ = false := HR5.out.2 2
   have z3 : W5.cell? ⟨w.heap.size, 3, none⟩ = some (.string ⟨#[]⟩) := HR5.out.1 3 (by decide)
   have t3 : W5.frozen? ⟨w.heap.size, 3, none⟩ = false := HR5.out.2 3
   have z4 : W5.cell? ⟨w.heap.size, 4, none⟩ = some (.string ⟨#[]⟩) := HR5.out.1 4 (by decide)
   have t4 : W5.frozen? ⟨w.heap.size, 4, none⟩ = false := HR5.out.2 4
   have z5 : W5.cell? ⟨w.heap.size, 5, none⟩ = some (.int .i64 0) := HR5.out.1 5 (by decide)
   have t5 : W5.frozen? ⟨w.heap.size, 5, none⟩ = false := HR5.out.2 5
   have z6 : W5.cell? ⟨w.heap.size, 6, none⟩ = some (.int .i64 0) := HR5.out.1 6 (by decide)
   have t6 : W5.frozen? ⟨w.heap.size, 6, none⟩ = false := HR5.out.2 6
   have z7 : W5.cell? ⟨w.heap.size, 7, none⟩ = some (.int .i64 0) := HR5.out.1 7 (by decide)
   have t7 : W5.frozen? ⟨w.heap.size, 7, none⟩ = false := HR5.out.2 7
   have z8 : W5.cell? ⟨w.heap.size, 8, none⟩ = some (.string ⟨#[]⟩) := HR5.out.1 8 (by decide)
   have t8 : W5.frozen? ⟨w.heap.size, 8, none⟩ = false := HR5.out.2 8
   have z9 : W5.cell? ⟨w.heap.size, 9, none⟩ = some (.int .i64 0) := HR5.out.1 9 (by decide)
   have t9 : W5.frozen? ⟨w.heap.size, 9, none⟩ = false := HR5.out.2 9
   have z10 : W5.cell? ⟨w.heap.size, 10, none⟩ = some (.int .i64 0) := HR5.out.1 10 (by decide)
   have t10 : W5.frozen? ⟨w.heap.size, 10, none⟩ = false := HR5.out.2 10
   have z11 : W5.cell? ⟨w.heap.size, 11, none⟩ = some (.slice none 0 0) := HR5.out.1 11 (by decide)
   have t11 : W5.frozen? ⟨w.heap.size, 11, none⟩ = false := HR5.out.2 11
   have HWF : Hid (FieldsAt W5) := Lib.hid (HF.out.below HB5.out hw)
   by_cases hbad : bd5 = true ∨ 0 < sz5.size
   · have hend := unEnd_any W5 ub sz5 bd5 HU5.out
     rw [if_pos hbad] at hend
     have hfn : fin = none := by rw [HFIN.out]; unfold decOp; rw [HDR.out, if_pos hbad]
     subst hfn
     clear hbad
     go_wp2_with fail
     refine hend.mono ?_
     rintro e wz ⟨rfl, hwz⟩
     obtain rfl := hwz.symm
     go_wp2_with fail
     refine bodyPost_ret (v := .tuple #[.agg (opN 0 0 0).cells.toArray, .int .i64 11]) (by simp [results, Tryz.results29, go_sem, OpS.cells, opN, bs, *]) rfl ?_
     exact ⟨by exact belC HB5.out, rfl⟩
   · have hend := unEnd_any W5 ub sz5 bd5 HU5.out
     rw [if_neg hbad] at hend
     obtain ⟨mp, mc, HA, HGR⟩ := HOX.out
     obtain ⟨gv, hgv⟩ : ∃ gv, gv = goodV o5 mv5 := ⟨_, rfl⟩
     have hfn : fin = if gv = true then some (o5, mv5) else none := by rw [HFIN.out, hgv]; unfold decOp; rw [HDR.out, if_neg hbad]
     have hin : OpIn W5 (o5.withM mp mv5.length mc) mv5 := ⟨rfl, HGR.row.sub fun _ _ _ => trivial, HGR.le, HGR.max⟩
     have hgd := opGood_any W5 (o5.withM mp mv5.length mc) mv5 hin HWF.out (Nat.lt_of_lt_of_le hw HB5.out.size) (Nat.le_trans HLX.out (by decide))
     rw [goodV_eq, ← hgv] at hgd
     have HIN := Lib.hid hin
     have HGR := Lib.hid HGR
     have HFN := Lib.hid hfn
     clear hin hgv hfn hbad
     obtain ⟨oc, os, ok, op, od, oz, oh, oo, ot, oi, on, om, ol, oq⟩ := o5
     simp only [OpS.withM, OpS.cells] at hgd
     have y0 : W5.cell? ⟨ob, 0, none⟩ = some (.int .i64 oc) := HA.1 0 (by decide)
     have y1 : W5.cell? ⟨ob, 1, none⟩ = some (.int .i64 os) := HA.1 1 (by decide)
     have y2 : W5.cell? ⟨ob, 2, none⟩ = some (.int .i64 ok) := HA.1 2 (by decide)
     have y3 : W5.cell? ⟨ob, 3, none⟩ = some (.string (bs op)) := HA.1 3 (by decide)
     have y4 : W5.cell? ⟨ob, 4, none⟩ = some (.string (bs od)) := HA.1 4 (by decide)
     have y5 : W5.cell? ⟨ob, 5, none⟩ = some (.int .i64 oz) := HA.1 5 (by decide)
     have y6 : W5.cell? ⟨ob, 6, none⟩ = some (.int .i64 oh) := HA.1 6 (by decide)
     have y7 : W5.cell? ⟨ob, 7, none⟩ = some (.int .i64 oo) := HA.1 7 (by decide)
     have y8 : W5.cell? ⟨ob, 8, none⟩ = some (.string ot) := HA.1 8 (by decide)
     have y9 : W5.cell? ⟨ob, 9, none⟩ = some (.int .i64 oi) := HA.1 9 (by decide)
     have y10 : W5.cell? ⟨ob, 10, none⟩ = some (.int .i64 on) := HA.1 10 (by decide)
     have y11 : W5.cell? ⟨ob, 11, none⟩ = some (.slice mp mv5.length mc) := HA.1 11 (by decide)
     obtain ⟨nl, hnl⟩ : ∃ nl, nl = mv5.length := ⟨_, rfl⟩
     rw [← hnl] at hgd y11
     have HNL := Lib.hid hnl
     clear hnl HA
     go_wp2_with fail
     refine hend.mono ?_
     rintro e wz ⟨rfl, hwz⟩
     obtain rfl := hwz.symm
     clear hend
     go_wp2_with fail
     refine hgd.mono ?_
     clear hgd
     rintro e w9 ⟨rfl, hB9⟩
     cases gv
     · have hfn := HFN.out
       rw [if_neg (by simp)] at hfn
       subst hfn
       have z0 := below_at hB9 z0 hwX
       have t0 : w9.frozen? ⟨w.heap.size, 0, none⟩ = false := (hB9.frozen (p := ⟨w.heap.size, 0, none⟩) hwX).trans t0
       have z1 := below_at hB9 z1 hwX
       have t1 : w9.frozen? ⟨w.heap.size, 1, none⟩ = false := (hB9.frozen (p := ⟨w.heap.size, 1, none⟩) hwX).trans t1
       have z2 := below_at hB9 z2 hwX
       have t2 : w9.frozen? ⟨w.heap.size, 2, none⟩ = false := (hB9.frozen (p := ⟨w.heap.size, 2, none⟩) hwX).trans t2
       have z3 := below_at hB9 z3 hwX
       have t3 : w9.frozen? ⟨w.heap.size, 3, none⟩ = false := (hB9.frozen (p := ⟨w.heap.size, 3, none⟩) hwX).trans t3
       have z4 := below_at hB9 z4 hwX
       have t4 : w9.frozen? ⟨w.heap.size, 4, none⟩ = false := (hB9.frozen (p := ⟨w.heap.size, 4, none⟩) hwX).trans t4
       have z5 := below_at hB9 z5 hwX
       have t5 : w9.frozen? ⟨w.heap.size, 5, none⟩ = false := (hB9.frozen (p := ⟨w.heap.size, 5, none⟩) hwX).trans t5
       have z6 := below_at hB9 z6 hwX
       have t6 : w9.frozen? ⟨w.heap.size, 6, none⟩ = false := (hB9.frozen (p := ⟨w.heap.size, 6, none⟩) hwX).trans t6
       have z7 := below_at hB9 z7 hwX
       have t7 : w9.frozen? ⟨w.heap.size, 7, none⟩ = false := (hB9.frozen (p := ⟨w.heap.size, 7, none⟩) hwX).trans t7
       have z8 := below_at hB9 z8 hwX
       have t8 : w9.frozen? ⟨w.heap.size, 8, none⟩ = false := (hB9.frozen (p := ⟨w.heap.size, 8, none⟩) hwX).trans t8
       have z9 := below_at hB9 z9 hwX
       have t9 : w9.frozen? ⟨w.heap.size, 9, none⟩ = false := (hB9.frozen (p := ⟨w.heap.size, 9, none⟩) hwX).trans t9
       have z10 := below_at hB9 z10 hwX
       have t10 : w9.frozen? ⟨w.heap.size, 10, none⟩ = false := (hB9.frozen (p := ⟨w.heap.size, 10, none⟩) hwX).trans t10
       have z11 := below_at hB9 z11 hwX
       have t11 : w9.frozen? ⟨w.heap.size, 11, none⟩ = false := (hB9.frozen (p := ⟨w.heap.size, 11, none⟩) hwX).trans t11
       have HB9 := Lib.hid (HB5.out.trans (hB9.mono HB5.out.size))
       exact mK95
     · have hfn := HFN.out
       rw [if_pos rfl] at hfn
       subst hfn
       have y0 := below_at hB9 y0 hoX
       have z0 := below_at hB9 z0 hwX
       have t0 : w9.frozen? ⟨w.heap.size, 0, none⟩ = false := (hB9.frozen (p := ⟨w.heap.size, 0, none⟩) hwX).trans t0
       have y1 := below_at hB9 y1 hoX
       have z1 := below_at hB9 z1 hwX
       have t1 : w9.frozen? ⟨w.heap.size, 1, none⟩ = false := (hB9.frozen (p := ⟨w.heap.size, 1, none⟩) hwX).trans t1
       have y2 := below_at hB9 y2 hoX
       have z2 := below_at hB9 z2 hwX
       have t2 : w9.frozen? ⟨w.heap.size, 2, none⟩ = false := (hB9.frozen (p := ⟨w.heap.size, 2, none⟩) hwX).trans t2
       have y3 := below_at hB9 y3 hoX
       have z3 := below_at hB9 z3 hwX
       have t3 : w9.frozen? ⟨w.heap.size, 3, none⟩ = false := (hB9.frozen (p := ⟨w.heap.size, 3, none⟩) hwX).trans t3
       have y4 := below_at hB9 y4 hoX
       have z4 := below_at hB9 z4 hwX
       have t4 : w9.frozen? ⟨w.heap.size, 4, none⟩ = false := (hB9.frozen (p := ⟨w.heap.size, 4, none⟩) hwX).trans t4
       have y5 := below_at hB9 y5 hoX
       have z5 := below_at hB9 z5 hwX
       have t5 : w9.frozen? ⟨w.heap.size, 5, none⟩ = false := (hB9.frozen (p := ⟨w.heap.size, 5, none⟩) hwX).trans t5
       have y6 := below_at hB9 y6 hoX
       have z6 := below_at hB9 z6 hwX
       have t6 : w9.frozen? ⟨w.heap.size, 6, none⟩ = false := (hB9.frozen (p := ⟨w.heap.size, 6, none⟩) hwX).trans t6
       have y7 := below_at hB9 y7 hoX
       have z7 := below_at hB9 z7 hwX
       have t7 : w9.frozen? ⟨w.heap.size, 7, none⟩ = false := (hB9.frozen (p := ⟨w.heap.size, 7, none⟩) hwX).trans t7
       have y8 := below_at hB9 y8 hoX
       have z8 := below_at hB9 z8 hwX
       have t8 : w9.frozen? ⟨w.heap.size, 8, none⟩ = false := (hB9.frozen (p := ⟨w.heap.size, 8, none⟩) hwX).trans t8
       have y9 := below_at hB9 y9 hoX
       have z9 := below_at hB9 z9 hwX
       have t9 : w9.frozen? ⟨w.heap.size, 9, none⟩ = false := (hB9.frozen (p := ⟨w.heap.size, 9, none⟩) hwX).trans t9
       have y10 := below_at hB9 y10 hoX
       have z10 := below_at hB9 z10 hwX
       have t10 : w9.frozen? ⟨w.heap.size, 10, none⟩ = false := (hB9.frozen (p := ⟨w.heap.size, 10, none⟩) hwX).trans t10
       have y11 := below_at hB9 y11 hoX
       have z11 := below_at hB9 z11 hwX
       have t11 : w9.frozen? ⟨w.heap.size, 11, none⟩ = false := (hB9.frozen (p := ⟨w.heap.size, 11, none⟩) hwX).trans t11
       have HB9 := Lib.hid (HB5.out.trans (hB9.mono HB5.out.size))
       exact mK94
 · have hkk : 0 < k ∧ k < 15 := by
    have := hkb.symm
    simp only [Bool.and_eq_true, decide_eq_true_eq] at this
    omega
   have hk15 : k < 15 := hkk.2
   have hkI : (k : Int) < 15 := by omega
   have e0 : W5.cell? ⟨0, k, none⟩ = some (.string ⟨(fldL k).toArray⟩) := HF.out.below HB5.out hw k hk15
   obtain ⟨l, hl⟩ : ∃ l, l = fldL k := ⟨_, rfl⟩
   have HIN : Hid (∀ c ∈ l, c ∈ letters) := Lib.hid (fun c hc => fldL_in k c (by rw [← hl]; exact hc))
   have hlen : l.length ≤ 3 := by
    exact mK51
   obtain ⟨st0, hst0⟩ : ∃ st0 : DSt, st0 = ((opN r2.1 c3 k, []), (sz5, bd5)) := ⟨_, rfl⟩
   have HDR0 : Hid (decRaw s = getAll l st0) := Lib.hid (by
     unfold decRaw
     rw [HHD.out, if_pos (by show knownB k = true; unfold knownB; rw [← hkb]), hl, hst0]
     rfl)
   have HU5 : Hid (UnpAt W5 ub st0.2.1 st0.2.2) := Lib.hid (by rw [hst0]; exact HU5.out)
   have HO5 : Hid (OpBox W5 ob none' st0.1.1 st0.1.2) := Lib.hid (by rw [hst0]; exact HO5.out)
   have HL0 : Hid (st0.1.2 = []) := Lib.hid (by rw [hst0])
   rw [← hl] at e0
   have hn0 : (0 : Nat) < W5.heap.size := by omega
   clear hkk hkb hst0 HHD hl hk
   go_wp2_with fail
   go_loopg [28] l.length (fun g sv wr => DecRel W5 ub ob l st0 g sv wr)
   case atStart => exact ⟨0, st0, rfl, Nat.zero_le _, rfl, rfl, by rw [HL0.out]; simp, HU5.out, HO5.out.wide (fun k hk => Or.inl hk), Mod.refl _ _⟩
   case round =>
    obtain ⟨i, st, rfl, hil, rfl, hst, hml, hUi, hOi, hMi⟩ := hrel
    have HST := Lib.hid hst
    have HUi := Lib.hid hUi
    have HOi := Lib.hid hOi
    have HMi := Lib.hid hMi
    have HML := Lib.hid hml
    clear hst hUi hOi hMi hml
    by_cases hlt : i < l.length
    · have hil2 : (0 : Int) ≤ i ∧ (i : Int) < l.length := by omega
      obtain ⟨c, hc⟩ : ∃ c, l[i]? = some c := ⟨_, List.getElem?_eq_getElem hlt⟩
      have hcl : c ∈ letters := HIN.out c (List.mem_of_getElem? hc)
      have hwr : wrap64 ((i : Int) + 1) = ((i + 1 : Nat) : Int) := by unfold wrap64; omega
      have HWR := Lib.hid hwr
      have hst2 : getAll (l.take (i + 1)) st0 = getF st.1.1 st.1.2 st.2.1 st.2.2 c := by
       rw [HST.out]
       unfold getAll
       rw [List.take_add_one, hc]
       simp
      have HST2 := Lib.hid hst2
      have hidx : ∀ h, (⟨l.toArray⟩ : ByteArray)[i]'h = c := fun h => by
       exact mK50
      have hSu : ¬ growI none' W5 wr ub := fun h => h.elim id (fun h => by have := h.1; omega)
      have hSo : ¬ growI none' W5 wr ob := fun h => h.elim id (fun h => by have := h.1; omega)
      have hgf := getF_any wr ub ob _ st.1.1 st.1.2 st.2.1 st.2.2 HUi.out HOi.out hne hSu hSo (by have := HML.out; omega) c hcl
      have hgl := getF_len st.1.1 st.1.2 st.2.1 st.2.2 c
      obtain ⟨st2, hs2⟩ : ∃ st2, st2 = getF st.1.1 st.1.2 st.2.1 st.2.2 c := ⟨_, rfl⟩
      rw [← hs2] at hgf hgl HST2
      have HGL := Lib.hid hgl
      clear hwr hst2 hs2 hgl hSu hSo hc hcl
      go_wp2_with fail
      refine hgf.mono ?_
      clear hgf
      rintro e w7 ⟨rfl, hU7, hO7, hM7⟩
      have HU7 := Lib.hid hU7
      have HO7 : Hid (OpBox w7 ob (growI none' W5 w7) st2.1.1 st2.1.2) := Lib.hid (hO7.wide (fun k hk => by
        rcases hk with (hk | hk) | hk
        · exact Or.inl hk
        · exact Or.inr ⟨hk.1, Nat.lt_of_lt_of_le hk.2 hM7.size⟩
        · exact Or.inr ⟨Nat.le_trans HMi.out.size hk.1, hk.2⟩))
      have HM7 : Hid (Mod (fun k => k = ub ∨ k = ob) W5 w7) := Lib.hid (HMi.out.trans' hM7 (fun k hk h => by
        rcases h with h | h | h | h
        · exact Or.inl h
        · exact Or.inr h
        · exact h.elim
        · have := h.1; omega))
      clear hU7 hO7 hM7
      go_wp2_with fail
      go_roundg (l.length - (i + 1))
      case measure => omega
      case rel => exact ⟨i + 1, st2, rfl, by omega, (by first | rfl | rw [HWR.out]), HST2.out.symm, by have := HML.out; have := HGL.out; omega, HU7.out, HO7.out, HM7.out⟩
    · obtain rfl : i = l.length := by omega
      have HDR : Hid (decRaw s = st) := Lib.hid (by rw [HDR0.out, HST.out, List.take_length])
      have HBX : Hid (Below w.heap.size w wr) := Lib.hid (HB5.out.trans (HMi.out.below_at HB5.out.size (fun k hk e => by
        have := HUB.out; have := HOB.out; have := HB1.out.size
        rcases e with e | e <;> omega)))
      have HRX : Hid (OpAt wr w.heap.size (opN 0 0 0)) := Lib.hid (HR5.out.mod HMi.out (fun e => by
        have := HUB.out; have := HOB.out
        rcases e with e | e <;> omega))
      have HLX : Hid (st.1.2.length ≤ 100) := Lib.hid (by have := HML.out; omega)
      obtain ⟨⟨o5, mv5⟩, sz, bd⟩ := st
      simp only at HUi HOi HLX
      have hge : ¬ (l.length : Int) < l.length := by omega
      clear hlt HML HDR0 HST HMi HL0 HO5 HU5
      have hoX : ob < wr.heap.size := by
       obtain ⟨mp, mc, h1, h2⟩ := HOi.out
       exact cell_lt (h1.1 0 (by decide))
      have hwX : w.heap.size < wr.heap.size := cell_lt (HRX.out.1 0 (by decide))
      have z0 : wr.cell? ⟨w.heap.size, 0, none⟩ = some (.int .i64 0) := HRX.out.1 0 (by decide)
      have t0 : wr.frozen? ⟨w.heap.size, 0, none⟩ = false := HRX.out.2 0
      have z1 : wr.cell? ⟨w.heap.size, 1, none⟩ = some (.int .i64 0) := HRX.out.1 1 (by decide)
      have t1 : wr.frozen? ⟨w.heap.size, 1, none⟩ = false := HRX.out.2 1
      have z2 : wr.cell? ⟨w.heap.size, 2, none⟩ = some (.int .i64 0) := HRX.out.1 2 (by decide)
      have t2 : wr.frozen? ⟨w.heap.size, 2, none⟩ = false := HRX.out.2 2
      have z3 : wr.cell? ⟨w.heap.size, 3, none⟩ = some (.string ⟨#[]⟩) := HRX.out.1 3 (by decide)
      have t3 : wr.frozen? ⟨w.heap.size, 3, none⟩ = false := HRX.out.2 3
      have z4 : wr.cell? ⟨w.heap.size, 4, none⟩ = some (.string ⟨#[]⟩) := HRX.out.1 4 (by decide)
      have t4 : wr.frozen? ⟨w.heap.size, 4, none⟩ = false := HRX.out.2 4
      have z5 : wr.cell? ⟨w.heap.size, 5, none⟩ = some (.int .i64 0) := HRX.out.1 5 (by decide)
      have t5 : wr.frozen? ⟨w.heap.size, 5, none⟩ = false := HRX.out.2 5
      have z6 : wr.cell? ⟨w.heap.size, 6, none⟩ = some (.int .i64 0) := HRX.out.1 6 (by decide)
      have t6 : wr.frozen? ⟨w.heap.size, 6, none⟩ = false := HRX.out.2 6
      have z7 : wr.cell? ⟨w.heap.size, 7, none⟩ = some (.int .i64 0) := HRX.out.1 7 (by decide)
      have t7 : wr.frozen? ⟨w.heap.size, 7, none⟩ = false := HRX.out.2 7
      have z8 : wr.cell? ⟨w.heap.size, 8, none⟩ = some (.string ⟨#[]⟩) := HRX.out.1 8 (by decide)
      have t8 : wr.frozen? ⟨w.heap.size, 8, none⟩ = false := HRX.out.2 8
      have z9 : wr.cell? ⟨w.heap.size, 9, none⟩ = some (.int .i64 0) := HRX.out.1 9 (by decide)
      have t9 : wr.frozen? ⟨w.heap.size, 9, none⟩ = false := HRX.out.2 9
      have z10 : wr.cell? ⟨w.heap.size, 10, none⟩ = some (.int .i64 0) := HRX.out.1 10 (by decide)
      have t10 : wr.frozen? ⟨w.heap.size, 10, none⟩ = false := HRX.out.2 10
      have z11 : wr.cell? ⟨w.heap.size, 11, none⟩ = some (.slice none 0 0) := HRX.out.1 11 (by decide)
      have t11 : wr.frozen? ⟨w.heap.size, 11, none⟩ = false := HRX.out.2 11
      have HWF : Hid (FieldsAt wr) := Lib.hid (HF.out.below HBX.out hw)
      by_cases hbad : bd = true ∨ 0 < sz.size
      · have hend := unEnd_any wr ub sz bd HUi.out
        rw [if_pos hbad] at hend
        have hfn : fin = none := by rw [HFIN.out]; unfold decOp; rw [HDR.out, if_pos hbad]
        subst hfn
        clear hbad
        go_wp2_with fail
        refine hend.mono ?_
        rintro e wz ⟨rfl, hwz⟩
        obtain rfl := hwz.symm
        go_wp2_with fail
        refine bodyPost_ret (v := .tuple #[.agg (opN 0 0 0).cells.toArray, .int .i64 11]) (by simp [results, Tryz.results29, go_sem, OpS.cells, opN, bs, *]) rfl ?_
        exact ⟨by exact belC HBX.out, rfl⟩
      · have hend := unEnd_any wr ub sz bd HUi.out
        rw [if_neg hbad] at hend
        obtain ⟨mp, mc, HA, HGR⟩ := HOi.out
        obtain ⟨gv, hgv⟩ : ∃ gv, gv = goodV o5 mv5 := ⟨_, rfl⟩
        have hfn : fin = if gv = true then some (o5, mv5) else none := by rw [HFIN.out, hgv]; unfold decOp; rw [HDR.out, if_neg hbad]
        have hin : OpIn wr (o5.withM mp mv5.length mc) mv5 := ⟨rfl, HGR.row.sub fun _ _ _ => trivial, HGR.le, HGR.max⟩
        have hgd := opGood_any wr (o5.withM mp mv5.length mc) mv5 hin HWF.out (Nat.lt_of_lt_of_le hw HBX.out.size) (Nat.le_trans HLX.out (by decide))
        rw [goodV_eq, ← hgv] at hgd
        have HIN := Lib.hid hin
        have HGR := Lib.hid HGR
        have HFN := Lib.hid hfn
        clear hin hgv hfn hbad
        obtain ⟨oc, os, ok, op, od, oz, oh, oo, ot, oi, on, om, ol, oq⟩ := o5
        simp only [OpS.withM, OpS.cells] at hgd
        have y0 : wr.cell? ⟨ob, 0, none⟩ = some (.int .i64 oc) := HA.1 0 (by decide)
        have y1 : wr.cell? ⟨ob, 1, none⟩ = some (.int .i64 os) := HA.1 1 (by decide)
        have y2 : wr.cell? ⟨ob, 2, none⟩ = some (.int .i64 ok) := HA.1 2 (by decide)
        have y3 : wr.cell? ⟨ob, 3, none⟩ = some (.string (bs op)) := HA.1 3 (by decide)
        have y4 : wr.cell? ⟨ob, 4, none⟩ = some (.string (bs od)) := HA.1 4 (by decide)
        have y5 : wr.cell? ⟨ob, 5, none⟩ = some (.int .i64 oz) := HA.1 5 (by decide)
        have y6 : wr.cell? ⟨ob, 6, none⟩ = some (.int .i64 oh) := HA.1 6 (by decide)
        have y7 : wr.cell? ⟨ob, 7, none⟩ = some (.int .i64 oo) := HA.1 7 (by decide)
        have y8 : wr.cell? ⟨ob, 8, none⟩ = some (.string ot) := HA.1 8 (by decide)
        have y9 : wr.cell? ⟨ob, 9, none⟩ = some (.int .i64 oi) := HA.1 9 (by decide)
        have y10 : wr.cell? ⟨ob, 10, none⟩ = some (.int .i64 on) := HA.1 10 (by decide)
        have y11 : wr.cell? ⟨ob, 11, none⟩ = some (.slice mp mv5.length mc) := HA.1 11 (by decide)
        obtain ⟨nl, hnl⟩ : ∃ nl, nl = mv5.length := ⟨_, rfl⟩
        rw [← hnl] at hgd y11
        have HNL := Lib.hid hnl
        clear hnl HA
        go_wp2_with fail
        refine hend.mono ?_
        rintro e wz ⟨rfl, hwz⟩
        obtain rfl := hwz.symm
        clear hend
        go_wp2_with fail
        refine hgd.mono ?_
        clear hgd
        rintro e w9 ⟨rfl, hB9⟩
        cases gv
        · have hfn := HFN.out
          rw [if_neg (by simp)] at hfn
          subst hfn
          have z0 := below_at hB9 z0 hwX
          have t0 : w9.frozen? ⟨w.heap.size, 0, none⟩ = false := (hB9.frozen (p := ⟨w.heap.size, 0, none⟩) hwX).trans t0
          have z1 := below_at hB9 z1 hwX
          have t1 : w9.frozen? ⟨w.heap.size, 1, none⟩ = false := (hB9.frozen (p := ⟨w.heap.size, 1, none⟩) hwX).trans t1
          have z2 := below_at hB9 z2 hwX
          have t2 : w9.frozen? ⟨w.heap.size, 2, none⟩ = false := (hB9.frozen (p := ⟨w.heap.size, 2, none⟩) hwX).trans t2
          have z3 := below_at hB9 z3 hwX
          have t3 : w9.frozen? ⟨w.heap.size, 3, none⟩ = false := (hB9.frozen (p := ⟨w.heap.size, 3, none⟩) hwX).trans t3
          have z4 := below_at hB9 z4 hwX
          have t4 : w9.frozen? ⟨w.heap.size, 4, none⟩ = false := (hB9.frozen (p := ⟨w.heap.size, 4, none⟩) hwX).trans t4
          have z5 := below_at hB9 z5 hwX
          have t5 : w9.frozen? ⟨w.heap.size, 5, none⟩ = false := (hB9.frozen (p := ⟨w.heap.size, 5, none⟩) hwX).trans t5
          have z6 := below_at hB9 z6 hwX
          have t6 : w9.frozen? ⟨w.heap.size, 6, none⟩ = false := (hB9.frozen (p := ⟨w.heap.size, 6, none⟩) hwX).trans t6
          have z7 := below_at hB9 z7 hwX
          have t7 : w9.frozen? ⟨w.heap.size, 7, none⟩ = false := (hB9.frozen (p := ⟨w.heap.size, 7, none⟩) hwX).trans t7
          have z8 := below_at hB9 z8 hwX
          have t8 : w9.frozen? ⟨w.heap.size, 8, none⟩ = false := (hB9.frozen (p := ⟨w.heap.size, 8, none⟩) hwX).trans t8
          have z9 := below_at hB9 z9 hwX
          have t9 : w9.frozen? ⟨w.heap.size, 9, none⟩ = false := (hB9.frozen (p := ⟨w.heap.size, 9, none⟩) hwX).trans t9
          have z10 := below_at hB9 z10 hwX
          have t10 : w9.frozen? ⟨w.heap.size, 10, none⟩ = false := (hB9.frozen (p := ⟨w.heap.size, 10, none⟩) hwX).trans t10
          have z11 := below_at hB9 z11 hwX
          have t11 : w9.frozen? ⟨w.heap.size, 11, none⟩ = false := (hB9.frozen (p := ⟨w.heap.size, 11, none⟩) hwX).trans t11
          have HB9 := Lib.hid (HBX.out.trans (hB9.mono HBX.out.size))
          exact mK95
        · have hfn := HFN.out
          rw [if_pos rfl] at hfn
          subst hfn
          have y0 := below_at hB9 y0 hoX
          have z0 := below_at hB9 z0 hwX
          have t0 : w9.frozen? ⟨w.heap.size, 0, none⟩ = false := (hB9.frozen (p := ⟨w.heap.size, 0, none⟩) hwX).trans t0
          have y1 := below_at hB9 y1 hoX
          have z1 := below_at hB9 z1 hwX
          have t1 : w9.frozen? ⟨w.heap.size, 1, none⟩ = false := (hB9.frozen (p := ⟨w.heap.size, 1, none⟩) hwX).trans t1
          have y2 := below_at hB9 y2 hoX
          have z2 := below_at hB9 z2 hwX
          have t2 : w9.frozen? ⟨w.heap.size, 2, none⟩ = false := (hB9.frozen (p := ⟨w.heap.size, 2, none⟩) hwX).trans t2
          have y3 := below_at hB9 y3 hoX
          have z3 := below_at hB9 z3 hwX
          have t3 : w9.frozen? ⟨w.heap.size, 3, none⟩ = false := (hB9.frozen (p := ⟨w.heap.size, 3, none⟩) hwX).trans t3
          have y4 := below_at hB9 y4 hoX
          have z4 := below_at hB9 z4 hwX
          have t4 : w9.frozen? ⟨w.heap.size, 4, none⟩ = false := (hB9.frozen (p := ⟨w.heap.size, 4, none⟩) hwX).trans t4
          have y5 := below_at hB9 y5 hoX
          have z5 := below_at hB9 z5 hwX
          have t5 : w9.frozen? ⟨w.heap.size, 5, none⟩ = false := (hB9.frozen (p := ⟨w.heap.size, 5, none⟩) hwX).trans t5
          have y6 := below_at hB9 y6 hoX
          have z6 := below_at hB9 z6 hwX
          have t6 : w9.frozen? ⟨w.heap.size, 6, none⟩ = false := (hB9.frozen (p := ⟨w.heap.size, 6, none⟩) hwX).trans t6
          have y7 := below_at hB9 y7 hoX
          have z7 := below_at hB9 z7 hwX
          have t7 : w9.frozen? ⟨w.heap.size, 7, none⟩ = false := (hB9.frozen (p := ⟨w.heap.size, 7, none⟩) hwX).trans t7
          have y8 := below_at hB9 y8 hoX
          have z8 := below_at hB9 z8 hwX
          have t8 : w9.frozen? ⟨w.heap.size, 8, none⟩ = false := (hB9.frozen (p := ⟨w.heap.size, 8, none⟩) hwX).trans t8
          have y9 := below_at hB9 y9 hoX
          have z9 := below_at hB9 z9 hwX
          have t9 : w9.frozen? ⟨w.heap.size, 9, none⟩ = false := (hB9.frozen (p := ⟨w.heap.size, 9, none⟩) hwX).trans t9
          have y10 := below_at hB9 y10 hoX
          have z10 := below_at hB9 z10 hwX
          have t10 : w9.frozen? ⟨w.heap.size, 10, none⟩ = false := (hB9.frozen (p := ⟨w.heap.size, 10, none⟩) hwX).trans t10
          have y11 := below_at hB9 y11 hoX
          have z11 := below_at hB9 z11 hwX
          have t11 : w9.frozen? ⟨w.heap.size, 11, none⟩ = false := (hB9.frozen (p := ⟨w.heap.size, 11, none⟩) hwX).trans t11
          have HB9 := Lib.hid (HBX.out.trans (hB9.mono HBX.out.size))
          exact mK94
end Go.Proofs.YtajbooppoohplaaGreatDoor
