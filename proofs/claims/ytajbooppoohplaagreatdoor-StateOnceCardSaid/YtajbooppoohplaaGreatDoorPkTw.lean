import Derived.Test.YtajbooppoohplaaGreatDoorMac
import Derived.Test.YtajbooppoohplaaGreatDoorRn10
import Derived.Test.YtajbooppoohplaaGreatDoorPkRd
import Derived.Test.YtajbooppoohplaaGreatDoorPkW
import Derived.Test.YtajbooppoohplaaGreatDoorPkStC
import Derived.Test.YtajbooppoohplaaGreatDoorPkDm
import Derived.Test.YtajbooppoohplaaGreatDoorPkOn
/- what the laws of the state ask of their records: text, Rec.Of, Fair -/
set_option maxRecDepth 100000
set_option maxHeartbeats 8000000
namespace Esch
open Go Go.RowKit
/-- a record, or junk, as it stands in the arguments -/
structure RecS where
  x : OpS
  mv : List Mv
  t : ByteArray
  raw : Bool
  junk : Bool
instance : Inhabited RecS := ⟨⟨opN 0 0 0, [], ⟨#[]⟩, false, false⟩⟩
def RecS.cells (r : RecS) : List Value := r.x.cells ++ [.string r.t, .bool r.raw, .bool r.junk]
theorem RecS.cells_len (r : RecS) : r.cells.length = 15 := rfl
/-- its kind and its text -/
def RecS.of (r : RecS) : Int × ByteArray := if r.junk = true then (2, ⟨#[]⟩) else if r.raw = true then (1, r.t) else (1, bs (r.x.enT r.mv).1)
theorem RecS.of_kind (r : RecS) : r.of.1 = 1 ∨ r.of.1 = 2 := by
 unfold RecS.of
 split
 · exact Or.inr rfl
 split <;> exact Or.inl rfl
def largeB (x : OpS) : Bool := decide (2000 < x.path.length) || (decide (2000 < x.dest.length) || (decide (5000 < x.data.size) || decide (100 < x.ml)))
def RecS.fair (r : RecS) : Bool := !(largeB r.x || decide (6000 < r.t.size))
def fairL (l : List RecS) : Bool := l.all RecS.fair && decide (l.length ≤ 120)
/-- a fair record is as long as that -/
theorem RecS.small {r : RecS} (h : r.fair = true) : r.x.path.length ≤ 2000 ∧ r.x.dest.length ≤ 2000 ∧ r.x.data.size ≤ 5000 ∧ r.x.ml ≤ 100 ∧ r.t.size ≤ 6000 := by
 unfold RecS.fair largeB at h
 simp only [Bool.not_eq_true', Bool.or_eq_false_iff, decide_eq_false_iff_not] at h
 omega
theorem RecS.of_size {w : World} {r : RecS} (h : r.fair = true) (hin : OpIn w r.x r.mv) : r.of.2.size ≤ 9223372036854775807 := by
 obtain ⟨h1, h2, h3, h4, h5⟩ := RecS.small h
 have hl := hin.len
 unfold RecS.of
 split
 · decide
 split
 · exact Nat.le_trans h5 (by decide)
 · show (bs (r.x.enT r.mv).1).size ≤ _
   have hd : r.x.data.data.toList.length = r.x.data.size := by rw [Array.length_toList]; rfl
   have hb : (r.x.enT r.mv).1.length ≤ 20000 := by
    unfold OpS.enT
    split
    · unfold OpS.enL hdB
      repeat' split
      all_goals (simp only [List.length_append, putB_length, txB, List.length_nil, mvB_len, hd]; omega)
    · exact Nat.zero_le _
   exact Nat.le_trans (show (bs (r.x.enT r.mv).1).size ≤ 20000 from hb) (by decide)
end Esch
namespace Go.Proofs.YtajbooppoohplaaGreatDoor
open Go.RowKit Esch

set_option linter.unusedSimpArgs false
theorem text25_all (w : World) (x : OpS) (mv : List Mv) (hx : OpIn w x mv) (hp : x.path.length ≤ 2000) (hq : x.dest.length ≤ 2000) (hm : mv.length ≤ 100) :
    Calls Tryz.prog 21 #[.agg x.cells.toArray] w fun e w' => e = .returned (.string (bs (x.enT mv).1)) ∧ Below w.heap.size w w' := by
 have henc := fun W hB => enc_all W x mv (hx.below' (w' := W) hB) hp hq hm
 generalize x.enT mv = t at henc ⊢
 obtain ⟨xc, xs, xk, p, q, xz, xh, xo, xt, xi, xn, mp, ml, mc⟩ := x
 simp only [OpS.cells] at henc ⊢
 clear hx hp hq hm
 go_enter Tryz.func21, Tryz.ntmps21
 go_wp2_with fail
 refine (henc _ (by exact belC (Below.refl _ _))).low (fun w2 hB2 => ?_)
 have hB : Below w.heap.size w w2 := (show Below w.heap.size w (w.alloc _) by exact belC (Below.refl _ _)).trans (hB2.mono (by simp))
 clear hB2 henc
 go_wp2_with fail
 go_ret
 exact ⟨rfl, hB⟩
theorem of25_all (w : World) (r : RecS) (hx : OpIn w r.x r.mv) (hf : r.fair = true) :
    Calls Tryz.prog 9 #[.agg r.cells.toArray] w fun e w' => e = .returned (.tuple #[.int .i64 r.of.1, .string r.of.2]) ∧ Below w.heap.size w w' := by
 have hs := RecS.small hf
 have hl := hx.len
 have htx : ∀ W, Below w.heap.size w W → Calls Tryz.prog 21 #[.agg r.x.cells.toArray] W fun e w' => e = .returned (.string (bs (r.x.enT r.mv).1)) ∧ Below W.heap.size W w' := fun W hB => text25_all W r.x r.mv (hx.below' hB) hs.1 hs.2.1 (by omega)
 clear hx hf hs hl
 obtain ⟨x, mv, t, raw, junk⟩ := r
 simp only [RecS.of, RecS.cells] at htx ⊢
 generalize (x.enT mv).1 = tx at htx ⊢
 obtain ⟨xc, xs, xk, p, q, xz, xh, xo, xt, xi, xn, mp, ml, mc⟩ := x
 simp only [OpS.cells, List.cons_append, List.nil_append] at htx ⊢
 obtain ⟨W1, hW1⟩ : ∃ W1, W1 = w.alloc (.cells #[.int .i64 xc, .int .i64 xs, .int .i64 xk, .string (bs p), .string (bs q), .int .i64 xz, .int .i64 xh, .int .i64 xo, .string xt, .int .i64 xi, .int .i64 xn, .slice mp ml mc, .string t, .bool raw, .bool junk] 33) := ⟨_, rfl⟩
 have hB1 : Below w.heap.size w W1 := by rw [hW1]; exact belC (Below.refl _ _)
 have HB1 := Lib.hid hB1
 cases junk
 · cases raw
   · have HW1 := Lib.hid hW1
     clear hW1 hB1
     go_enter Tryz.func9, Tryz.ntmps9
     go_wp2_with fail
     rw [← HW1.out]
     refine (htx _ HB1.out).low (fun w2 hB2 => ?_)
     have HB2 := Lib.hid (HB1.out.trans (hB2.mono HB1.out.size))
     clear hB2 htx
     go_wp2_with fail
     go_ret2
     exact ⟨rfl, HB2.out⟩
   · clear htx hW1 hB1 HB1
     go_enter Tryz.func9, Tryz.ntmps9
     go_wp2_with fail
     go_region
     all_goals
       go_wp2_with fail
       go_ret2
       exact ⟨rfl, by exact belC (Below.refl _ _)⟩
 · clear htx hW1 hB1 HB1
   go_enter Tryz.func9, Tryz.ntmps9
   go_wp2_with fail
   go_ret2
   exact ⟨rfl, by exact belC (Below.refl _ _)⟩
theorem Tryz.infoOpL : (Tryz.prog.info? 31).map (·.size) = some 12 := by kernel_rfl
def FaRel (w : World) (l : List RecS) (g : Nat) (v : Value) (wr : World) : Prop := ∃ i : Nat, g = l.length - i ∧ i ≤ l.length ∧ v = .int .i64 i ∧ Below w.heap.size w wr ∧ (l.take i).all RecS.fair = true
theorem fair25_all (w : World) (a : Option Addr) (c : Nat) (l : List RecS) (h : RwAt w (fun _ => True) 15 l.length a (l.flatMap RecS.cells)) (hl : l.length ≤ 9223372036854775807) :
    Calls Tryz.prog 6 #[.slice a l.length c] w fun e w' => e = .returned (.bool (fairL l)) ∧ Below w.heap.size w w' := by
 have HX := Lib.hid h
 obtain ⟨res, hres⟩ : ∃ res, res = fairL l := ⟨_, rfl⟩
 rw [← hres]
 have HRES := Lib.hid hres
 clear h hres
 go_enter Tryz.func6, Tryz.ntmps6
 go_wp2_with fail
 go_loopg [3] l.length (fun g v wr => FaRel w l g v wr)
 case atStart => exact ⟨0, rfl, Nat.zero_le _, rfl, Below.refl _ _, rfl⟩
 case round =>
  obtain ⟨i, hg, hi, rfl, hB, hall⟩ := hrel
  subst hg
  have HB := Lib.hid hB
  have HALL := Lib.hid hall
  clear hB hall
  by_cases hlt : i < l.length
  · obtain ⟨xb, xo, rfl, -, hxl, hxc⟩ := (HX.out.below' HB.out).elem RecS.cells_len default hlt
    have HTK := Lib.hid (take_one l default hlt)
    have HMEM : Hid (l.getD i default ∈ l) := Lib.hid (by
      rw [List.getD_eq_getElem?_getD, List.getElem?_eq_getElem hlt, Option.getD_some]
      exact List.getElem_mem hlt)
    obtain ⟨r, hr⟩ : ∃ r, r = l.getD i default := ⟨_, rfl⟩
    rw [← hr] at hxc HTK HMEM
    have HR : Hid (wr.rangeAt xb (xo + i * 15) r.x.cells) := Lib.hid (fun j v hv => by
      have hj : j < 12 := (List.getElem?_eq_some_iff.1 hv).1
      rw [hxc j (by omega)]
      show (r.x.cells ++ _)[j]? = some v
      rw [List.getElem?_append_left (show j < r.x.cells.length from hj)]
      exact hv)
    have f12 : wr.cell? ⟨xb, xo + i * 15 + 12, none⟩ = some (.string r.t) := hxc 12 (by decide)
    have hlg := fun W => largeOp6 W r.x
    have hfr : r.fair = !(largeB r.x || decide (6000 < r.t.size)) := rfl
    have hlb : (decide (2000 < r.x.path.length) || (decide (2000 < r.x.dest.length) || (decide (5000 < r.x.data.size) || decide (100 < r.x.ml)))) = largeB r.x := rfl
    rw [hlb] at hlg
    generalize largeB r.x = lv at hlg hfr
    have hil : (i : Int) < (l.length : Int) := Int.ofNat_lt.2 hlt
    have hwi : wrap64 ((i : Int) + 1) = ((i + 1 : Nat) : Int) := by unfold wrap64; omega
    have HWI := Lib.hid hwi
    have hms : l.length - (i + 1) < l.length - i := Nat.sub_lt_sub_left hlt (Nat.lt_succ_self i)
    have hi1 : i + 1 ≤ l.length := hlt
    have HF := Lib.hid hfr
    clear hxc hwi hr hfr hlb hi
    go_wp2_with (refine wpList_load_mid (by rfl) 31 _ (by rfl) xb (xo + i * 15) (by rfl) r.x.cells _ HR.out Tryz.underlying31 rfl Tryz.infoOpL ?_)
    refine (hlg _).low (fun w2 hB2 => ?_)
    have f12 := below_at hB2 f12 hxl
    have HB2 := Lib.hid (HB.out.trans (hB2.mono HB.out.size))
    clear hB2 hlg
    cases lv
    · by_cases h6 : 6000 < r.t.size
      · have HBAD : Hid (res = false) := Lib.hid (by
          rw [HRES.out]
          unfold fairL
          rw [Bool.and_eq_false_iff]
          refine Or.inl (List.all_eq_false.2 ⟨r, HMEM.out, ?_⟩)
          rw [HF.out, decide_eq_true h6]
          decide)
        have h6' : (6000 : Int) < (r.t.size : Int) := by omega
        clear h6
        exact mK137
      · have HOK : Hid (r.fair = true) := Lib.hid (by rw [HF.out, decide_eq_false h6]; rfl)
        have h6' : ¬ (6000 : Int) < (r.t.size : Int) := by omega
        clear h6
        go_wp2_with fail
        go_roundg (l.length - (i + 1))
        case measure => exact hms
        case rel => exact ⟨i + 1, rfl, hi1, by first | rfl | rw [HWI.out], HB2.out, by rw [HTK.out, List.all_append, HALL.out, Bool.true_and, List.all_cons, HOK.out]; rfl⟩
    · have HBAD : Hid (res = false) := Lib.hid (by
        rw [HRES.out]
        unfold fairL
        rw [Bool.and_eq_false_iff]
        refine Or.inl (List.all_eq_false.2 ⟨r, HMEM.out, ?_⟩)
        rw [HF.out]
        simp)
      exact mK137
  · obtain rfl : i = l.length := Nat.le_antisymm hi (Nat.not_lt.1 hlt)
    have hge : ¬ (l.length : Int) < (l.length : Int) := Int.lt_irrefl _
    have hall := HALL.out
    rw [List.take_length] at hall
    have hr2 : res = decide (l.length ≤ 120) := by rw [HRES.out]; unfold fairL; rw [hall, Bool.true_and]
    have hd : decide (l.length ≤ 120) = decide ((l.length : Int) ≤ 120) := by congr 1; rw [eq_iff_iff]; omega
    have HR2 := Lib.hid (hr2.trans hd)
    clear hlt hi hall hr2 hd
    go_wp2_with fail
    go_ret
    exact ⟨(show Ending.returned (Value.bool (decide ((l.length : Int) ≤ 120))) = _ by rw [HR2.out]), HB.out⟩
end Go.Proofs.YtajbooppoohplaaGreatDoor
/- what the laws of the state wake them by -/
namespace Go.Proofs.YtajbooppoohplaaGreatDoor
open Go.RowKit Esch Go.Shelf

set_option linter.unusedSimpArgs false
theorem wk_enT : ((opP 1 0 1 wkP).enT []).1 = headL 1 0 1 ++ textL wkP := by kernel_rfl
theorem wk_text (w : World) : Calls Tryz.prog 21 #[.agg #[.int .i64 0, .int .i64 1, .int .i64 1, .string ⟨#[47, 97]⟩, .string ⟨#[]⟩, .int .i64 0, .int .i64 0, .int .i64 0, .string ⟨#[]⟩, .int .i64 0, .int .i64 0, .slice none 0 0]] w fun e w' => e = .returned (.string wkT) ∧ Below w.heap.size w w' := by
 have h := text25_all w (opP 1 0 1 wkP) [] (opIn_nil _ _ rfl rfl) (by decide) (by decide) (by decide)
 rw [wk_enT] at h
 exact h
theorem wakes25_any (w : World) (hf : FieldsAt w) (hw : 0 < w.heap.size) : Calls Tryz.prog 7 #[] w fun e w' => e = .returned (.bool true) ∧ Below w.heap.size w w' := by
 have hok1 : wkS1.ok := by have := st0_ok.apply 0 1 wkT; rw [wk_a1] at this; exact this
 have hok2 : wkS2.ok := by have := hok1.apply 1 1 wkT; rw [wk_a2] at this; exact this
 have h13 : ∀ r, decOp wkT = some r → r.1.kind = 1 := fun r h => by rw [wkT_dec] at h; cases h; rfl
 have hwt : wkT.size ≤ 9223372036854775807 := by decide
 have HF := Lib.hid hf
 have HW := Lib.hid hw
 clear hf
 go_enter Tryz.func7, Tryz.ntmps7
 go_wp2_with fail
 refine (stNew_any _).mono ?_
 rintro e w1 ⟨b, rfl, hS1, hB1⟩
 have HS1 := Lib.hid hS1
 have HB1 := Lib.hid hB1
 have hz1 := hB1.size
 clear hS1 hB1
 go_wp2_with fail
 refine (wk_text w1).mono ?_
 rintro e w2 ⟨rfl, hB2⟩
 obtain ⟨S, hSd⟩ : ∃ S : Nat → Prop, S = fun k => w.heap.size ≤ k ∧ k < w1.heap.size := ⟨_, rfl⟩
 have HS2 : Hid (SttAt w2 b S st0) := Lib.hid (by rw [hSd]; exact HS1.out.below' hB2)
 have HB2 := Lib.hid (HB1.out.trans (hB2.mono HB1.out.size))
 have hS0 : ¬ S 0 := by rw [hSd]; intro h; have := h.1; omega
 have HSw : Hid (∀ k, S k → w.heap.size ≤ k) := Lib.hid (by rw [hSd]; exact fun k h => h.1)
 have hz2 := hB2.size
 clear hB2 HS1 hSd
 have ha1 := stApply1_any w2 b S st0 HS2.out st0_ok 0 1 wkT hwt (HF.out.below HB2.out hw) hS0 h13
 rw [wk_a1] at ha1
 obtain ⟨tx, htx⟩ : ∃ tx, tx = wkT := ⟨_, rfl⟩
 rw [← htx] at ha1 ⊢
 have HTX := Lib.hid htx
 clear htx
 go_wp2_with fail
 refine ha1.mono ?_
 clear ha1
 rintro e w3 ⟨rfl, hS3, hM3⟩
 simp only at hS3 ⊢
 obtain ⟨w4, hw4⟩ : ∃ w4, w4 = w3.alloc (.cells #[.int .i64 0, .int .i64 0] 36) := ⟨_, rfl⟩
 have hB4 : Below w3.heap.size w3 w4 := by rw [hw4]; exact belC (Below.refl _ _)
 obtain ⟨ab, hab⟩ : ∃ ab, ab = w3.heap.size := ⟨_, rfl⟩
 have ac : w4.cell? ⟨ab, 0, none⟩ = some (.int .i64 0) := by rw [hw4, hab]; go_simp
 have HS4 := Lib.hid (hS3.below' hB4)
 have HM4 : Hid (Mod S w2 w4) := Lib.hid (hM3.trans (Mod.of_below hB4))
 have hB4w : Below w.heap.size w w4 := HB2.out.trans (HM4.out.below_at HB2.out.size (fun k hk h => by have := HSw.out k h; omega))
 have HB4 := Lib.hid hB4w
 have hS04 : ¬ growI S w2 w3 0 := fun h => h.elim hS0 (fun h => by have := HB2.out.size; omega)
 have hSa : ¬ growI S w2 w3 ab := fun h => by have := hS3.lt _ h; omega
 have HSw4 : Hid (∀ k, growI S w2 w3 k → w.heap.size ≤ k) := Lib.hid (fun k h => h.elim (HSw.out k) (fun h => by have := HB2.out.size; omega))
 have ha2 := stApply1_any w4 b (growI S w2 w3) wkS1 HS4.out hok1 1 1 wkT hwt (HF.out.below hB4w hw) hS04 h13
 rw [wk_a2, ← HTX.out] at ha2
 have HW4 := Lib.hid hw4
 have HAB := Lib.hid hab
 clear hS3 hM3 hB4 hw4 hab hB4w
 go_wp2_with fail
 rw [← HW4.out, ← HAB.out]
 refine ha2.mono ?_
 clear ha2
 rintro e w5 ⟨rfl, hS5, hM5⟩
 simp only at hS5 ⊢
 have ac := hM5.at ac hSa
 obtain ⟨w6, hw6⟩ : ∃ w6, w6 = w5.alloc (.cells #[.int .i64 0, .int .i64 0] 36) := ⟨_, rfl⟩
 have hB6 : Below w5.heap.size w5 w6 := by rw [hw6]; exact belC (Below.refl _ _)
 have ac := below_at hB6 ac (cell_lt ac)
 have HS6 := Lib.hid (hS5.below' hB6)
 have HB6 : Hid (Below w.heap.size w w6) := Lib.hid (HB4.out.trans ((hM5.trans (Mod.of_below hB6)).below_at HB4.out.size (fun k hk h => by have := HSw4.out k h; omega)))
 have HW6 := Lib.hid hw6
 clear hS5 hM5 hB6 hw6
 go_wp2_with fail
 rw [← HW6.out]
 refine (stOnce_any w6 b _ wkS2 HS6.out).mono ?_
 rintro e w7 ⟨⟨ob, mb, rfl, hon⟩, hw7⟩
 obtain rfl := hw7.symm
 have hla := onceLast_any 0 w6 ob mb wkS2.o hon
 rw [wk_last] at hla
 clear hon
 go_wp2_with fail
 refine hla.mono ?_
 clear hla
 rintro e w8 ⟨rfl, hB8⟩
 have ac := below_at hB8 ac (cell_lt ac)
 have HS8 := Lib.hid (HS6.out.below' hB8)
 have HB8 := Lib.hid (HB6.out.trans (hB8.mono HB6.out.size))
 clear hB8
 simp only
 obtain ⟨w9, hw9⟩ : ∃ w9, w9 = w8.alloc (.cells #[.int .i64 0, .int .i64 0] 36) := ⟨_, rfl⟩
 have hB9 : Below w8.heap.size w8 w9 := by rw [hw9]; exact belC (Below.refl _ _)
 have ac := below_at hB9 ac (cell_lt ac)
 have HS9 := Lib.hid (HS8.out.below' hB9)
 have HB9 := Lib.hid (HB8.out.trans (hB9.mono HB8.out.size))
 have HW9 := Lib.hid hw9
 clear hB9 hw9
 go_wp2_with fail
 rw [← HW9.out]
 refine (stTree_any w9 b _ wkS2 HS9.out).mono ?_
 rintro e w10 ⟨⟨tb, S1, rfl, htr⟩, hw10⟩
 obtain rfl := hw10.symm
 have hli : Calls Tryz.prog 24 #[.pointer (some ⟨tb, 0, none⟩), .string ⟨#[47]⟩] w9 _ := trList_any w9 tb S1 wkS2.t htr [47] (by rw [wk_nm]; decide)
 rw [wk_list] at hli
 clear htr
 go_wp2_with fail
 refine hli.mono ?_
 clear hli
 rintro e w11 ⟨la, lc, l, rfl, hls, hnm, -, hB11⟩
 have hl1 : l = [[97]] := by
  obtain ⟨k, ⟨hp, -⟩, rfl⟩ := (show NamesOfD wkS2.t.n.m 1 l from hls)
  rw [wk_nm] at hp
  rw [List.perm_singleton.1 (show k.Perm [((1, [97]), 2)] from hp)]
  rfl
 subst hl1
 have ac := below_at hB11 ac (cell_lt ac)
 have HS11 := Lib.hid (HS9.out.below' hB11)
 have HB11 := Lib.hid (HB9.out.trans (hB11.mono HB9.out.size))
 rw [show Res.code (.ok 1 : Res Int) = 0 from rfl]
 have HNM := Lib.hid hnm
 have hal := cell_lt ac
 clear hB11 hls hnm
 have hnx := stNext_any w11 b _ wkS2 HS11.out
 rw [show wkS2.next = 2 from rfl] at hnx
 go_wp2_with fail
 refine hnx.mono ?_
 clear hnx
 rintro e w12 ⟨rfl, hw12⟩
 obtain rfl := hw12.symm
 go_wp2_with fail
 obtain ⟨w13, hw13⟩ : ∃ w13, w13 = w11.alloc (.cells #[.string ⟨#[97]⟩] 9) := ⟨_, rfl⟩
 have hB13 : Below w11.heap.size w11 w13 := by rw [hw13]; exact belC (Below.refl _ _)
 have hny : NmsAt (fun _ => True) w13 (some ⟨w11.heap.size, 0, none⟩) [[97]] := by
  intro _
  refine ⟨w11.heap.size, 0, rfl, trivial, by rw [hw13]; simp, fun i hi => ?_⟩
  have : i = 0 := by simpa using hi
  subst this
  rw [hw13]
  go_simp
  rfl
 have htx2 := texts_any w13 _ _ la (some ⟨w11.heap.size, 0, none⟩) lc 1 [[97]] [[97]] (HNM.out.below hB13) hny (by decide)
 rw [decide_eq_true rfl] at htx2
 have HB13 := Lib.hid (HB11.out.trans (hB13.mono HB11.out.size))
 rw [← hw13]
 clear hw13 hB13 hny
 refine htx2.mono ?_
 clear htx2
 rintro e w14 ⟨rfl, hB14⟩
 go_wp2_with fail
 go_ret
 exact ⟨rfl, HB13.out.trans (hB14.mono HB13.out.size)⟩
end Go.Proofs.YtajbooppoohplaaGreatDoor
/- two states side by side -/
namespace Go.Proofs.YtajbooppoohplaaGreatDoor
open Go.RowKit Esch Go.Shelf

structure Two (w : World) (ab bb : Nat) (SA SB : Nat → Prop) (sa sb : StS) (W : World) : Prop where
  a : SttAt W ab SA sa
  b : SttAt W bb SB sb
  dis : ∀ k, SA k → ¬ SB k
  lo : ∀ k, SA k ∨ SB k → w.heap.size ≤ k
  bl : Below w.heap.size w W
theorem Two.below {w W W' : World} {ab bb : Nat} {SA SB : Nat → Prop} {sa sb : StS} (h : Two w ab bb SA SB sa sb W) (hB : Below W.heap.size W W') : Two w ab bb SA SB sa sb W' :=
  ⟨h.a.below' hB, h.b.below' hB, h.dis, h.lo, h.bl.trans (hB.mono h.bl.size)⟩
theorem Two.swap {w W : World} {ab bb : Nat} {SA SB : Nat → Prop} {sa sb : StS} (h : Two w ab bb SA SB sa sb W) : Two w bb ab SB SA sb sa W :=
  ⟨h.b, h.a, fun k hb ha => h.dis k ha hb, fun k hk => h.lo k hk.symm, h.bl⟩
theorem Two.stepA {w W W' : World} {ab bb : Nat} {SA SB : Nat → Prop} {sa sb s' : StS} (h : Two w ab bb SA SB sa sb W) (hT : SttAt W' ab (growI SA W W') s') (hM : Mod SA W W') : Two w ab bb (growI SA W W') SB s' sb W' :=
  ⟨hT, h.b.mod hM (fun k hk hs => h.dis k hs hk), fun k hk hb => hk.elim (fun hs => h.dis k hs hb) (fun hn => by have := h.b.lt k hb; omega), fun k hk => hk.elim (fun hk => hk.elim (fun hs => h.lo k (Or.inl hs)) (fun hn => Nat.le_trans h.bl.size hn.1)) (fun hs => h.lo k (Or.inr hs)), h.bl.trans (hM.below_at h.bl.size (fun k hk e => by have := h.lo k (Or.inl e); omega))⟩
/-- what a call of Apply to the first one leaves -/
def TwoPost (w : World) (ab bb : Nat) (SA SB : Nat → Prop) (r : ASt) (sb : StS) (W : World) (e : Ending) (W' : World) : Prop :=
  e = .returned (.tuple #[.agg #[.int .i64 r.1.1.1, .int .i64 r.1.1.2], .bool r.1.2.1, .int .i64 r.1.2.2]) ∧ (∃ SA', Two w ab bb SA' SB r.2 sb W') ∧ Mod SA W W'
theorem Two.apply {w W : World} {ab bb : Nat} {SA SB : Nat → Prop} {sa sb : StS} (h : Two w ab bb SA SB sa sb W) (hok : sa.ok) (hf : FieldsAt w) (hw : 0 < w.heap.size) (addr kind : Int) (text : ByteArray) (hts : text.size ≤ 9223372036854775807) :
    Calls Tryz.prog 10 #[.pointer (some ⟨ab, 0, none⟩), .int .i64 addr, .int .i64 kind, .string text] W (TwoPost w ab bb SA SB (sa.apply addr kind text) sb W) :=
  (stApplyA_any W ab SA sa h.a hok addr kind text hts (hf.below h.bl hw) (fun h0 => by have := h.lo 0 (Or.inl h0); omega)).mono fun _ _ h2 => ⟨h2.1, ⟨_, h.stepA h2.2.1 h2.2.2⟩, h2.2.2⟩
/-- a record of the arguments' row, where it is wanted -/
theorem rec_at {w W : World} {a : Option Addr} {l : List RecS} (h : RwAt w (fun _ => True) 15 l.length a (l.flatMap RecS.cells)) (hB : Below w.heap.size w W) {i : Nat} (hi : i < l.length) :
    ∃ b off, a = some ⟨b, off, none⟩ ∧ b < w.heap.size ∧ W.rangeAt b (off + i * 15) (l.getD i default).cells := by
 obtain ⟨b, off, e, -, hb, hc⟩ := h.elem RecS.cells_len default hi
 exact ⟨b, off, e, hb, fun j v hv => below_at hB ((hc j (List.getElem?_eq_some_iff.1 hv).1).trans hv) hb⟩
theorem rec_mem {l : List RecS} {i : Nat} (hi : i < l.length) : l.getD i default ∈ l := by
 rw [List.getD_eq_getElem?_getD, List.getElem?_eq_getElem hi, Option.getD_some]
 exact List.getElem_mem hi
theorem Tryz.infoRec : (Tryz.prog.info? 33).map (·.size) = some 15 := by kernel_rfl
end Go.Proofs.YtajbooppoohplaaGreatDoor
/- the law StateOnce: the walk -/
namespace Go.Proofs.YtajbooppoohplaaGreatDoor
open Go.RowKit Esch Go.Shelf

theorem wrap_up {i : Nat} (h : i ≤ 1000000) : wrap64 ((i : Int) + 1) = (i : Int) + 1 := by unfold wrap64; omega
theorem wrap_up' {i : Nat} (h : i ≤ 1000000) : wrap64 ((i : Int) + 1) = ((i + 1 : Nat) : Int) := by unfold wrap64; omega
theorem wrap_u8' {b : Int} (h : 0 ≤ b ∧ b ≤ 255) : IntKind.i64.wrap b = b := by rw [IntKind.wrap_i64]; omega
theorem wrap_sum {i n : Nat} (h : i ≤ 1000000) (h2 : n ≤ 1000000) : wrap64 ((i : Int) + (n : Int)) = (i : Int) + n := by unfold wrap64; omega
theorem not_zero (i : Nat) : ¬ ((i : Int) + 1 = 0) := by omega
def u8C (b : Int) : List Value := [.int .u8 b]
def OnRel (w : World) (ab bb na : Nat) (l : List RecS) (g : Nat) (v7 v8 : Value) (wr : World) : Prop :=
  ∃ (i n : Nat) (s : StS) (SA SB : Nat → Prop), g = l.length - i ∧ i ≤ l.length ∧ v8 = .int .i64 i ∧ v7 = .int .i64 n ∧ Two w ab bb SA SB s s wr ∧ s.ok ∧ s.few (i + n) ∧ n ≤ i ∧ n ≤ na ∧ ∀ k, k < i → Gone s (l.getD k default).of
theorem few_next {s : StS} {n : Nat} (h : s.few n) : ({ s with next := s.next + 1 } : StS).few (n + 1) :=
  ⟨by have := h.nx; show s.next + 1 = ((n + 1 : Nat) : Int); omega, Nat.le_succ_of_le h.nm, by have := h.tm; show s.t.t.m.length ≤ _; omega⟩
theorem stateOnce_walk (w : World) (hf : FieldsAt w) (hw : 0 < w.heap.size) (a : Option Addr) (cap : Nat) (l : List RecS) (hrow : RwAt w (fun _ => True) 15 l.length a (l.flatMap RecS.cells)) (hin : ∀ r ∈ l, OpIn w r.x r.mv) (hl : l.length ≤ 9223372036854775807)
    (a2 : Option Addr) (cap2 : Nat) (bl : List Int) (hrow2 : RwAt w (fun _ => True) 1 bl.length a2 (bl.flatMap u8C)) (hb : ∀ x ∈ bl, 0 ≤ x ∧ x ≤ 255) :
    Calls Tryz.prog 3 #[.slice a l.length cap, .slice a2 bl.length cap2] w fun e w' => e = .returned (.bool true) ∧ Below w.heap.size w w' := by
 have hfa := fair25_all w a cap l hrow hl
 have HF := Lib.hid hf
 have HW := Lib.hid hw
 have HROW := Lib.hid hrow
 have HROW2 := Lib.hid hrow2
 have HIN := Lib.hid hin
 have HBL := Lib.hid hb
 clear hf hw hrow hrow2 hin hb
 go_enter Tryz.func3, Tryz.ntmps3
 go_wp2_with fail
 refine hfa.low (fun w1 hB1 => ?_)
 have HX := Lib.hid hB1
 clear hfa hB1
 cases hfl : fairL l
 · clear hfl
   exact mK138
 have hfl2 : l.all RecS.fair = true ∧ l.length ≤ 120 := by unfold fairL at hfl; simpa only [Bool.and_eq_true, decide_eq_true_eq] using hfl
 have HFL : Hid (∀ i, i < l.length → (l.getD i default).fair = true) := Lib.hid (fun i hi => List.all_eq_true.1 hfl2.1 _ (rec_mem hi))
 have h120 := hfl2.2
 clear hfl hfl2
 by_cases h60 : 60 < bl.length
 · exact mK138
 have g60 : bl.length ≤ 60 := by omega
 clear h60
 go_wp2_with fail
 refine (stNew_any _).mono ?_
 rintro e w2 ⟨ab, rfl, hS2, hB2⟩
 have HS2 := Lib.hid hS2
 have HB2 := Lib.hid (HX.out.trans (hB2.mono HX.out.size))
 have hz12 := hB2.size
 clear hS2 hB2
 go_wp2_with fail
 refine (stNew_any _).mono ?_
 rintro e w3 ⟨bb, rfl, hS3, hB3⟩
 have HT3 : Hid (Two w ab bb (fun k => w1.heap.size ≤ k ∧ k < w2.heap.size) (fun k => w2.heap.size ≤ k ∧ k < w3.heap.size) st0 st0 w3) := Lib.hid ⟨HS2.out.below' hB3, hS3, fun k h1 h2 => by omega, fun k hk => by have := HX.out.size; omega, HB2.out.trans (hB3.mono HB2.out.size)⟩
 clear hS3 hB3 HS2 HB2 HX hz12
 go_wp2_with fail
 go_loopg [7, 8] l.length (fun g v7 v8 wr => OnRel w ab bb bl.length l g v7 v8 wr)
 case atStart => exact ⟨0, 0, st0, _, _, rfl, Nat.zero_le _, rfl, rfl, HT3.out, st0_ok, st0_few, Nat.le_refl _, Nat.zero_le _, fun k hk => absurd hk (Nat.not_lt_zero _)⟩
 case round =>
  clear HT3
  obtain ⟨i, n, s, SA, SB, hg, hi, rfl, rfl, hT, hok, hfw, hni, hna, hgo⟩ := hrel
  subst hg
  have HT := Lib.hid hT
  have HOK := Lib.hid hok
  have HFW := Lib.hid hfw
  have HGO := Lib.hid hgo
  clear hT hok hfw hgo
  have HEQ : Hid (i + 1 + (n + 1) = i + n + 1 + 1 ∧ i + 1 + n = i + n + 1) := Lib.hid ⟨by omega, by omega⟩
  by_cases hlt : i < l.length
  · obtain ⟨xb, xo, rfl, hxl, hxr⟩ := rec_at HROW.out HT.out.bl hlt
    have HR := Lib.hid hxr
    have hfair := HFL.out i hlt
    have hinr := HIN.out _ (rec_mem hlt)
    have hof := of25_all wr (l.getD i default) (hinr.below' HT.out.bl) hfair
    have hts := RecS.of_size hfair hinr
    have hkd := (l.getD i default).of_kind
    have HLA : Hid (∀ q, q = s.apply s.next (l.getD i default).of.1 (l.getD i default).of.2 → ∀ k, k < i + 1 → Gone q.2 (l.getD k default).of) := Lib.hid (fun q hq k hk => by
      subst hq
      by_cases hki : k < i
      · exact (HGO.out k hki).mono _ _ _
      · obtain rfl : k = i := by omega
        exact gone_apply (by have := HFW.out.nx; omega))
    obtain ⟨kt, hkt⟩ : ∃ kt, kt = (l.getD i default).of := ⟨_, rfl⟩
    rw [← hkt] at hof hts hkd HLA
    obtain ⟨kd, tx⟩ := kt
    simp only at hof hts hkd HLA
    obtain ⟨q, hq⟩ : ∃ q, q = s.apply s.next kd tx := ⟨_, rfl⟩
    have hfq := few_apply HOK.out HFW.out (by omega) kd hkd tx
    have hokq := HOK.out.apply s.next kd tx
    rw [← hq] at hfq hokq
    have HAP : Hid (∀ (ab bb : Nat) (SA SB : Nat → Prop) (sb : StS) (W : World), Two w ab bb SA SB s sb W → Calls Tryz.prog 10 #[.pointer (some ⟨ab, 0, none⟩), .int .i64 s.next, .int .i64 kd, .string tx] W (TwoPost w ab bb SA SB q sb W)) := Lib.hid (fun ab bb SA SB sb W h => by rw [hq]; exact h.apply HOK.out HF.out HW.out s.next kd tx hts)
    have HLA := Lib.hid (HLA.out q hq)
    have HFQ := Lib.hid hfq.1
    have HOQ := Lib.hid hokq
    obtain ⟨x, hx⟩ : ∃ x, x = l.getD i default := ⟨_, rfl⟩
    rw [← hx] at hof HR
    obtain ⟨⟨⟨qc, qh⟩, qd, qe⟩, qs⟩ := q
    simp only at HAP HLA HFQ HOQ
    have hil : (i : Int) < (l.length : Int) := Int.ofNat_lt.2 hlt
    have HWI := Lib.hid (wrap_up' (i := i) (by omega))
    have hms : l.length - (i + 1) < l.length - i := Nat.sub_lt_sub_left hlt (Nat.lt_succ_self i)
    have hi1 : i + 1 ≤ l.length := hlt
    clear hxr hfair hinr hts hkd hkt hq hfq hokq hx
    go_wp2_with (refine wpList_load_mid (by rfl) 33 _ (by rfl) xb (xo + i * 15) (by rfl) x.cells _ HR.out Tryz.underlying33 rfl Tryz.infoRec ?_)
    refine hof.low (fun w1 hB1 => ?_)
    have HT1 := Lib.hid (HT.out.below hB1)
    clear hof hB1
    go_wp2_with fail
    refine (stNext_any _ ab _ s HT1.out.a).same ?_
    go_wp2_with fail
    refine (HAP.out _ _ _ _ _ _ HT1.out).mono ?_
    rintro e w2 ⟨rfl, ⟨SA2, hT2⟩, -⟩
    obtain ⟨w3, hw3, hB3⟩ : ∃ w3, w3 = w2.alloc (.cells #[.int .i64 qc, .int .i64 qh] 36) ∧ Below w2.heap.size w2 w3 := ⟨_, rfl, by exact belC (Below.refl _ _)⟩
    obtain ⟨b1, hb1⟩ : ∃ b1, b1 = w2.heap.size := ⟨_, rfl⟩
    have c1 : w3.cell? ⟨b1, 0, none⟩ = some (.int .i64 qc) := by rw [hw3, hb1]; go_simp
    have HT3 := Lib.hid (hT2.below hB3)
    have HNB : Hid (¬ SB b1) := Lib.hid (fun hs => by have := hT2.b.lt _ hs; omega)
    have HW3 := Lib.hid hw3
    have HB1 := Lib.hid hb1
    clear hT2 hw3 hB3 hb1
    go_wp2_with fail
    rw [← HW3.out, ← HB1.out]
    refine (stNext_any _ bb _ s HT3.out.b).same ?_
    go_wp2_with fail
    refine (HAP.out _ _ _ _ _ _ HT3.out.swap).mono ?_
    rintro e w4 ⟨rfl, ⟨SB4, hT4⟩, hM4⟩
    have c1 := hM4.at c1 HNB.out
    obtain ⟨w5, hw5, hB5⟩ : ∃ w5, w5 = w4.alloc (.cells #[.int .i64 qc, .int .i64 qh] 36) ∧ Below w4.heap.size w4 w5 := ⟨_, rfl, by exact belC (Below.refl _ _)⟩
    have HT5 := Lib.hid (hT4.below hB5).swap
    have HW5 := Lib.hid hw5
    have HT4 := Lib.hid hT4
    have hb1l := cell_lt c1
    clear hT4 hM4 hB5 hw5
    by_cases hbi : i < bl.length
    · have HNA : Hid (n + 1 ≤ i + 1 ∧ n + 1 ≤ bl.length) := Lib.hid ⟨Nat.succ_le_succ hni, Nat.le_trans (Nat.succ_le_succ hni) hbi⟩
      obtain ⟨zb, zo, rfl, -, hzl, hzc⟩ := (HROW2.out.below' HT4.out.bl).elem (f := u8C) (fun _ => rfl) (0 : Int) hbi
      have hbe := HBL.out (bl.getD i 0) (by
        rw [List.getD_eq_getElem?_getD, List.getElem?_eq_getElem hbi, Option.getD_some]
        exact List.getElem_mem hbi)
      obtain ⟨be, hbe'⟩ : ∃ be, be = bl.getD i 0 := ⟨_, rfl⟩
      rw [← hbe'] at hbe hzc
      have z0 : w4.cell? ⟨zb, zo + i, none⟩ = some (.int .u8 be) := by have := hzc 0 (by decide); simpa [u8C] using this
      obtain ⟨kk, hkk⟩ : ∃ kk, kk = be.toNat % (i + 1) := ⟨_, rfl⟩
      have hrem : be.tmod ((i : Int) + 1) = ((kk : Nat) : Int) := by
       rw [Int.tmod_eq_emod_of_nonneg hbe.1, hkk, Int.natCast_emod, Int.toNat_of_nonneg hbe.1]
       rfl
      have hkl : kk < i + 1 := by rw [hkk]; exact Nat.mod_lt _ (Nat.succ_pos i)
      have hkl2 : kk < l.length := by omega
      obtain ⟨yb, yo, e2, hyl, hyr⟩ := rec_at HROW.out HT5.out.bl hkl2
      cases e2
      have HR := Lib.hid hyr
      rw [HW5.out] at HR
      have hfair := HFL.out kk hkl2
      have hinr := HIN.out _ (rec_mem hkl2)
      have hof := of25_all w5 (l.getD kk default) (hinr.below' HT5.out.bl) hfair
      have hts := RecS.of_size hfair hinr
      have hgone := apply_gone ((l.getD kk default).of_kind) (HLA.out kk hkl) (by have := HFQ.out.nx; show qs.next < 16384; omega)
      obtain ⟨y, hy⟩ : ∃ y, y = l.getD kk default := ⟨_, rfl⟩
      rw [← hy] at hof hts hgone HR
      obtain ⟨kt, hkt⟩ : ∃ kt, kt = y.of := ⟨_, rfl⟩
      rw [← hkt] at hof hts hgone
      obtain ⟨kd2, tx2⟩ := kt
      simp only at hof hts hgone
      have hjunk := apply_junk2 (s := qs) (by have := HFQ.out.nx; omega) ⟨#[]⟩
      have HA2 : Hid (∀ (W : World) (SA SB : Nat → Prop), Two w ab bb SA SB qs qs W → Calls Tryz.prog 10 #[.pointer (some ⟨ab, 0, none⟩), .int .i64 qs.next, .int .i64 kd2, .string tx2] W (TwoPost w ab bb SA SB (((0, 0), false, 0), { qs with next := qs.next + 1 }) qs W)) := Lib.hid (fun W SA SB h => by rw [← hgone]; exact h.apply HOQ.out HF.out HW.out qs.next kd2 tx2 hts)
      have HB2' : Hid (∀ (W : World) (SA SB : Nat → Prop), Two w bb ab SB SA qs { qs with next := qs.next + 1 } W → Calls Tryz.prog 10 #[.pointer (some ⟨bb, 0, none⟩), .int .i64 qs.next, .int .i64 2, .string ⟨#[]⟩] W (TwoPost w bb ab SB SA (((0, 0), false, 0), { qs with next := qs.next + 1 }) { qs with next := qs.next + 1 } W)) := Lib.hid (fun W SA SB h => by rw [← hjunk]; exact h.apply HOQ.out HF.out HW.out qs.next 2 ⟨#[]⟩ (by decide))
      have HOQ2 : Hid (({ qs with next := qs.next + 1 } : StS).ok) := Lib.hid (by have h := HOQ.out.apply qs.next 2 ⟨#[]⟩; rw [hjunk] at h; exact h)
      have hbi2 : (i : Int) < (bl.length : Int) := Int.ofNat_lt.2 hbi
      have hkl3 : (kk : Int) < (l.length : Int) := Int.ofNat_lt.2 hkl2
      have HWN := Lib.hid (wrap_up' (i := n) (by omega))
      have hw1 := wrap_up (i := i) (by omega)
      have hbe2 := wrap_u8' hbe
      have hnz := not_zero i
      clear hzc hbe' hkk hkl hkl2 hyr hfair hinr hts hgone hkt hjunk hy hbi
      go_wp2_with (refine wpList_load_mid (by rfl) 33 _ (by rfl) xb (xo + kk * 15) (by rfl) y.cells _ HR.out Tryz.underlying33 rfl Tryz.infoRec ?_)
      rw [← HW5.out]
      refine hof.low (fun w6 hB6 => ?_)
      have HT6 := Lib.hid (HT5.out.below hB6)
      clear hof hB6 c1 z0 hb1l
      go_wp2_with fail
      refine (stNext_any _ ab _ qs HT6.out.a).same ?_
      go_wp2_with fail
      refine (HA2.out _ _ _ HT6.out).mono ?_
      rintro e w7 ⟨rfl, ⟨SA7, hT7⟩, -⟩
      simp only at hT7 ⊢
      obtain ⟨w8, hw8, hB8⟩ : ∃ w8, w8 = w7.alloc (.cells #[.int .i64 0, .int .i64 0] 36) ∧ Below w7.heap.size w7 w8 := ⟨_, rfl, by exact belC (Below.refl _ _)⟩
      have HT8 := Lib.hid (hT7.below hB8)
      have HW8 := Lib.hid hw8
      clear hT7 hw8 hB8
      go_wp2_with fail
      rw [← HW8.out]
      refine (stNext_any _ bb _ qs HT8.out.b).same ?_
      go_wp2_with fail
      refine (HB2'.out _ _ _ HT8.out.swap).mono ?_
      rintro e w9 ⟨rfl, ⟨SB9, hT9⟩, -⟩
      simp only at hT9 ⊢
      have HT9 := Lib.hid (hT9.swap.below (W' := w9.alloc (.cells #[.int .i64 0, .int .i64 0] 36)) (by exact belC (Below.refl _ _)))
      clear hT9
      go_wp2_with fail
      go_roundg (l.length - (i + 1))
      case measure => exact hms
      case rel => exact ⟨i + 1, n + 1, { qs with next := qs.next + 1 }, SA7, SB9, rfl, hi1, by first | rfl | rw [HWI.out], by first | rfl | rw [HWN.out], HT9.out, HOQ2.out, by have := few_next HFQ.out; rwa [HEQ.out.1], HNA.out.1, HNA.out.2, HLA.out⟩
    · have hbi2 : ¬ (i : Int) < (bl.length : Int) := fun h => hbi (Int.ofNat_lt.1 h)
      clear hbi
      go_wp2_with fail
      rw [← HW5.out]
      go_roundg (l.length - (i + 1))
      case measure => exact hms
      case rel => exact ⟨i + 1, n, qs, SA2, SB4, rfl, hi1, by first | rfl | rw [HWI.out], rfl, HT5.out, HOQ.out, by have := HFQ.out; rwa [HEQ.out.2], Nat.le_succ_of_le hni, hna, HLA.out⟩
  · obtain rfl : i = l.length := Nat.le_antisymm hi (Nat.not_lt.1 hlt)
    have hge : ¬ (l.length : Int) < (l.length : Int) := Int.lt_irrefl _
    have b1 : s.t.t.m.length ≤ 100000 := by have := HFW.out.tm; omega
    have b2 : s.t.n.m.length ≤ 100000 := by have := HFW.out.nm; omega
    have b3 : s.h.m.length ≤ 100000 := by have := HOK.out.hl; have := HFW.out.nx; omega
    have hdm := stDump_any wr ab SA s HT.out.a b1 b2 b3
    have hd2 := fun W hB => stDump_any W bb SB s (HT.out.below (W' := W) hB).b b1 b2 b3
    have HBB := Lib.hid (And.intro b1 (And.intro b2 b3))
    have hnx : s.next = (l.length : Int) + (n : Int) := by have := HFW.out.nx; omega
    have hwl := wrap_sum (i := l.length) (n := n) (by omega) (by omega)
    have HNX := Lib.hid hnx
    clear hlt hi b1 b2 b3 hnx
    go_wp2_with fail
    refine hdm.mono ?_
    clear hdm
    intro e w1 hd1
    obtain ⟨x, hx⟩ := dump_of hd1 HBB.out.1 HBB.out.2.1 HBB.out.2.2
    obtain rfl := hx.e
    have HX := Lib.hid hx
    have hd2 := hd2 w1 hx.bl
    clear hd1 hx
    go_wp2_with fail
    refine hd2.mono ?_
    clear hd2
    intro e w2 hd3
    obtain ⟨y, hy⟩ := dump_of hd3 HBB.out.1 HBB.out.2.1 HBB.out.2.2
    obtain rfl := hy.e
    have HY := Lib.hid hy
    have hsm := stSame_any w2 _ _ x y (HX.out.below hy.bl).ok hy.ok
    rw [dumps_same HX.out hy] at hsm
    have HT2 := Lib.hid (HT.out.below (HX.out.bl.trans (hy.bl.mono HX.out.bl.size)))
    clear hd3 hy
    go_wp2_with fail
    refine hsm.low (fun w3 hB3 => ?_)
    have HT3 := Lib.hid (HT2.out.below hB3)
    clear hsm hB3
    have hnx := stNext_any w3 ab SA s HT3.out.a
    rw [HNX.out] at hnx
    go_wp2_with fail
    refine hnx.same ?_
    have HX := Lib.hid HT3.out.bl
    clear hnx
    exact mK138
end Go.Proofs.YtajbooppoohplaaGreatDoor
