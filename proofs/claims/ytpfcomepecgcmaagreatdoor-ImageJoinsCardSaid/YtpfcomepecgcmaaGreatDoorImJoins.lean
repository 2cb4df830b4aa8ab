/- the walk of the law ImageJoins -/
import Derived.Test.YtpfcomepecgcmaaGreatDoorKMod
import Derived.Test.YtpfcomepecgcmaaGreatDoorPkWk
import Derived.Test.YtpfcomepecgcmaaGreatDoorRKnown
namespace Esch
open Go Go.RowKit
instance : Inhabited OpS := ⟨opN 0 0 0⟩
theorem OpS.cells_len (x : OpS) : x.cells.length = 12 := rfl
theorem pcRows_at (s : ByteArray) (c q : Int) {n i : Nat} (h : i < n) (d : OpS) : (pcRows s c q n).getD i d = pcRow s c q i := by
  unfold pcRows
  rw [List.getD_eq_getElem?_getD, List.getElem?_eq_getElem (by simpa using h)]
  simp
/-- a row's thing, as its range and two of its cells -/
theorem op_at {w : World} {S : Nat → Prop} {l : List OpS} {ao : Option Addr} (h : RwAt w S 12 l.length ao (l.flatMap OpS.cells)) (d : OpS) {i : Nat} (hi : i < l.length) :
    ∃ b off, ao = some ⟨b, off, none⟩ ∧ S b ∧ b < w.heap.size ∧ w.rangeAt b (off + i * 12) (l.getD i d).cells := by
  obtain ⟨b, off, e, hs, hb, hc⟩ := h.elem OpS.cells_len d hi
  refine ⟨b, off, e, hs, hb, fun j v hv => ?_⟩
  have hj : j < 12 := by rw [← OpS.cells_len (l.getD i d)]; exact (List.getElem?_eq_some_iff.1 hv).1
  exact (hc j hj).trans hv
theorem rng_below {w w' : World} {b o : Nat} {l : List Value} (h : w.rangeAt b o l) (hb : b < w.heap.size) (hB : Below w.heap.size w w') : w'.rangeAt b o l := fun j v hv => below_at hB (h j v hv) hb
theorem rng_mod {F : Nat → Prop} {w w' : World} {b o : Nat} {l : List Value} (h : w.rangeAt b o l) (hM : Mod F w w') (hb : ¬ F b) : w'.rangeAt b o l := fun j v hv => hM.at (h j v hv) hb
def JnRel (s : ByteArray) (c : Int) (n gb : Nat) (w6 : World) (g : Nat) (v : Value) (wr : World) : Prop := ∃ i : Nat, g = n - i ∧ i ≤ n ∧ v = .int .i64 i ∧ GaAt wr gb (gaUp s c i) ∧ Mod (· = gb) w6 wr
end Esch
namespace Go.Proofs.YtpfcomepecgcmaaGreatDoor
open Go.RowKit Esch Go.Shelf

theorem Tryz.infoOp12 : (Tryz.prog.info? 33).map (·.size) = some 12 := by kernel_rfl
set_option maxRecDepth 100000 in
set_option maxHeartbeats 8000000 in
theorem imJoins_any (w : World) (s : ByteArray) (n0 n1 : Int) (a : Option Addr) (cap : Nat) (l : List OpS) (hl : RwAt w (fun _ => True) 12 l.length a (l.flatMap OpS.cells)) (_hcap : l.length ≤ cap) (hop : ∀ x ∈ l, ∃ mv, OpIn w x mv) (hf : FieldsAt w) (hw : 0 < w.heap.size) (hs : s.size ≤ 9223372036854775807) :
    Calls Tryz.prog 4 #[.string s, .agg #[.int .i64 n0, .int .i64 n1], .slice a l.length cap] w fun e w' => e = .returned (.bool true) ∧ Below w.heap.size w w' := by
  have hm8 := fun W => kMod8_any W n0
  have hmM := fun W => kModM_any W n1
  have HP : Hid (∀ w', Below w.heap.size w w' → (fun (e : Ending) (w' : World) => e = .returned (.bool true) ∧ Below w.heap.size w w') (.returned (.bool true)) w') := Lib.hid (fun w' h => ⟨rfl, h⟩)
  generalize (fun (e : Ending) (w' : World) => e = .returned (.bool true) ∧ Below w.heap.size w w') = R at HP ⊢
  have HL := Lib.hid hl
  have HOP := Lib.hid hop
  have HF := Lib.hid hf
  have HWS := Lib.hid hw
  obtain ⟨W1, hW1⟩ : ∃ W1, W1 = w.alloc (.cells #[.int .i64 n0, .int .i64 n1] 22) := ⟨_, rfl⟩
  have hB1 : Below w.heap.size w W1 := by rw [hW1]; exact belC (Below.refl _ _)
  have c0 : W1.cell? ⟨w.heap.size, 0, none⟩ = some (.int .i64 n0) := by rw [hW1]; go_simp
  have c1 : W1.cell? ⟨w.heap.size, 1, none⟩ = some (.int .i64 n1) := by rw [hW1]; go_simp
  have HB1 := Lib.hid hB1
  have HW1 := Lib.hid hW1
  clear hl hop hf hw hB1 hW1
  go_enter Tryz.func4, Tryz.ntmps4
  go_wp2_with fail
  rw [← HW1.out]
  refine region_kwalk (S := fun W => (W.cell? ⟨w.heap.size, 0, none⟩ = some (.int .i64 n0) ∧ W.cell? ⟨w.heap.size, 1, none⟩ = some (.int .i64 n1)) ∧ Below w.heap.size w W) (by kernel_rfl) (by kernel_rfl) (by kernel_rfl) ⟨⟨c0, c1⟩, HB1.out.drew⟩ ?_
  clear c0 c1
  repeat (first | refine kwL ?_ | refine kwU ?_)
  refine kw_nil (fun W hW => ?_)
  have HB := Lib.hid hW.2
  clear hW
  by_cases h1 : 70000 < s.size
  · go_wp2_with fail
    refine (wakes26_any _).mono ?_
    rintro e w4 ⟨rfl, hB4⟩
    go_wp2_with fail
    exact HP.out _ (HB.out.trans (hB4.mono HB.out.size))
  by_cases h2 : s.size < 1
  · go_wp2_with fail
    refine (wakes26_any _).mono ?_
    rintro e w4 ⟨rfl, hB4⟩
    go_wp2_with fail
    exact HP.out _ (HB.out.trans (hB4.mono HB.out.size))
  by_cases h3 : 65536 < s.size
  · go_wp2_with fail
    refine (wakes26_any _).mono ?_
    rintro e w4 ⟨rfl, hB4⟩
    go_wp2_with fail
    exact HP.out _ (HB.out.trans (hB4.mono HB.out.size))
  by_cases h4 : 100 < l.length
  · go_wp2_with fail
    refine (wakes26_any _).mono ?_
    rintro e w4 ⟨rfl, hB4⟩
    go_wp2_with fail
    exact HP.out _ (HB.out.trans (hB4.mono HB.out.size))
  have g1 : 1 ≤ s.size := by omega
  have g3 : s.size ≤ 65536 := by omega
  have g4 : l.length ≤ 100 := by omega
  clear h1 h2 h3 h4
  go_wp2_with fail
  refine (hm8 _).mono ?_
  clear hm8
  rintro e w2 ⟨⟨c, rfl, hc0, hc8⟩, hq⟩
  obtain rfl := hq.symm
  clear hq
  go_wp2_with fail
  refine (hmM _).mono ?_
  clear hmM
  rintro e w3 ⟨⟨q, rfl, hq0, hq1⟩, hq⟩
  obtain rfl := hq.symm
  clear hq
  go_wp2_with fail
  refine (imgPieces_any _ s c (1 + q) (by omega)).mono ?_
  rintro e w5 ⟨hB5, ⟨hbad, -⟩ | ⟨-, pa, pc, rfl, hG5⟩⟩
  · exfalso; unfold PcBad at hbad; omega
  have HB5 := Lib.hid (HB.out.trans (hB5.mono HB.out.size))
  have HG5 := Lib.hid hG5
  clear hB5 hG5
  obtain ⟨n, hn⟩ : ∃ n, n = (s.size + 1023) / 1024 := ⟨_, rfl⟩
  rw [← hn] at HG5 ⊢
  have HN := Lib.hid hn
  have hn1 : 1 ≤ n := by omega
  have hn64 : n ≤ 64 := by omega
  go_wp2_with fail
  refine (gaNew_any _).mono ?_
  rintro e w6 ⟨rfl, hA6, hB6⟩
  have HA6 := Lib.hid hA6
  have HB6 := Lib.hid hB6
  clear hA6 hB6
  have hq7 : (s.size : Int) + 1024 - 1 = (s.size : Int) + 1023 := by omega
  have hdv : ((s.size : Int) + 1023).tdiv 1024 = n := by rw [Int.tdiv_eq_ediv_of_nonneg (by omega)]; omega
  go_wp2_with fail
  obtain ⟨gb, hgb⟩ : ∃ gb, gb = w5.heap.size := ⟨_, rfl⟩
  rw [← hgb] at HA6 ⊢
  have HGB := Lib.hid hgb
  have hpcs : RwAt w6 (· < gb) 12 (pcRows s c (1 + q) n).length pa ((pcRows s c (1 + q) n).flatMap OpS.cells) := by
    rw [pcRows_len]
    exact (HG5.out.row.sub (T := (· < gb)) (fun k hk _ => by rw [HGB.out]; exact hk)).below' HB6.out
  have hB06 : Below w.heap.size w w6 := HB5.out.trans (HB6.out.mono HB5.out.size)
  have hoth : RwAt w6 (· < gb) 12 l.length a (l.flatMap OpS.cells) := (HL.out.sub (T := (· < gb)) (fun k hk _ => by rw [HGB.out]; exact Nat.lt_of_lt_of_le hk HB5.out.size)).below' hB06
  have HPC := Lib.hid hpcs
  have HOT := Lib.hid hoth
  have HB06 := Lib.hid hB06
  clear hgb hpcs hoth hB06 hq7 hdv
  go_loopg [13] n (fun g v wr => JnRel s c n gb w6 g v wr)
  case atStart => exact ⟨0, rfl, Nat.zero_le _, rfl, HA6.out, Mod.refl _ _⟩
  case round =>
    obtain ⟨i, hg, hi, rfl, hGA, hM⟩ := hrel
    subst hg
    have HGA := Lib.hid hGA
    have HM := Lib.hid hM
    have hB0r : Below w.heap.size w wr := HB06.out.trans (hM.below_at HB06.out.size (fun k hk e => by have h1 := HB5.out.size; have h2 := HGB.out; subst e; omega))
    have HB0r := Lib.hid hB0r
    have HFr := Lib.hid (HF.out.below hB0r HWS.out)
    have HWr := Lib.hid (Nat.lt_of_lt_of_le HWS.out hB0r.size)
    clear hGA hM hB0r
    by_cases hlt : i < n
    · obtain ⟨pb, po, rfl, hpg, hpl, hpr⟩ := op_at HPC.out default (i := i) (by rw [pcRows_len]; exact hlt)
      rw [pcRows_at _ _ _ hlt] at hpr
      have HPR := Lib.hid (rng_mod hpr HM.out (fun e => by subst e; exact Nat.lt_irrefl _ hpg))
      have HPL := Lib.hid (Nat.lt_of_lt_of_le hpl HM.out.size)
      have hin : 1024 * i < s.size := by have := HN.out; omega
      have HYS := Lib.hid (join_yes s c (1 + q) i hin g3 hc0 hc8 (by omega) (by omega))
      have HMID := Lib.hid (join_mid s c i hin)
      have hil : (i : Int) < (n : Int) := Int.ofNat_lt.2 hlt
      have hwi : wrap64 ((i : Int) + 1) = ((i + 1 : Nat) : Int) := by unfold wrap64; omega
      have HWI := Lib.hid hwi
      have hms : n - (i + 1) < n - i := Nat.sub_lt_sub_left hlt (Nat.lt_succ_self i)
      have hi1 : i + 1 ≤ n := hlt
      clear hwi hpr hpl hpg hin
      have HBT : Hid (Below wr.heap.size wr wr) := Lib.hid (Below.refl _ _)
      by_cases hol : i < l.length
      · obtain ⟨ob, oo, rfl, hog, hbl, hrg⟩ := op_at HOT.out default hol
        have hrg := rng_mod hrg HM.out (fun e => by subst e; exact Nat.lt_irrefl _ hog)
        have hbl := Nat.lt_of_lt_of_le hbl HM.out.size
        have hmem : l.getD i default ∈ l := by
          rw [List.getD_eq_getElem?_getD, List.getElem?_eq_getElem hol, Option.getD_some]
          exact List.getElem_mem hol
        obtain ⟨mv, hmv⟩ := HOP.out _ hmem
        obtain ⟨x, hx⟩ : ∃ x, x = l.getD i default := ⟨_, rfl⟩
        rw [← hx] at hrg hmv
        clear hx hmem hog
        have hoi : (i : Int) < (l.length : Int) := Int.ofNat_lt.2 hol
        have c0 : wr.cell? ⟨ob, oo + i * 12, none⟩ = some (.int .i64 x.client) := hrg 0 _ rfl
        have c2 : wr.cell? ⟨ob, oo + i * 12 + 2, none⟩ = some (.int .i64 x.kind) := hrg 2 _ rfl
        have HR := Lib.hid hrg
        have HMV := Lib.hid hmv
        have hlg := fun W => largeOp6 W x
        have hml : (decide (2000 < x.path.length) || (decide (2000 < x.dest.length) || (decide (5000 < x.data.size) || decide (100 < x.ml)))) = false → x.ml ≤ 100 := fun h => by simp only [Bool.or_eq_false_iff, decide_eq_false_iff_not] at h; omega
        generalize (decide (2000 < x.path.length) || (decide (2000 < x.dest.length) || (decide (5000 < x.data.size) || decide (100 < x.ml)))) = lv at hlg hml
        clear hrg hmv
        have HC0 := Lib.hid c0
        have HC2 := Lib.hid c2
        clear c0 c2
        go_wp2_with (refine wpList_load_mid_w (by rfl) 33 _ (by rfl) ob (oo + i * 12) (by rfl) x.cells _ HR.out Tryz.underlying33 rfl Tryz.infoOp12 ?_)
        refine (hlg _).mono ?_
        clear hlg
        rintro e wx ⟨rfl, hBx⟩
        have c0 := below_at hBx HC0.out hbl
        have c2 := below_at hBx HC2.out hbl
        have HBT := Lib.hid hBx
        have HR : Hid (wx.rangeAt ob (oo + i * 12) x.cells) := Lib.hid (rng_below HR.out hbl hBx)
        clear hBx
        cases lv
        rotate_left 1
        · go_wp2_with fail
          have HGT := Lib.hid (HGA.out.below' HBT.out)
          have HBT0 := Lib.hid HBT.out
          go_wp2_with fail
          refine (gaText_any _ gb _ HGT.out).mono ?_
          rintro e wt ⟨he, hBt⟩
          rw [HMID.out] at he
          subst he
          generalize (gaUp s c i).text.1 = tx
          have HBt := Lib.hid (HBT0.out.trans (hBt.mono HBT0.out.size))
          have HGt := Lib.hid (HGA.out.below' HBt.out)
          have HR : Hid (wt.rangeAt pb (po + i * 12) (pcRow s c (1 + q) i).cells) := Lib.hid (rng_below HPR.out HPL.out HBt.out)
          clear hBt
          go_wp2_with (refine wpList_load_mid_w (by rfl) 33 _ (by rfl) pb (po + i * 12) (by rfl) (pcRow s c (1 + q) i).cells _ HR.out Tryz.underlying33 rfl Tryz.infoOp12 ?_)
          refine (gaAdd_any wt gb _ (pcRow s c (1 + q) i) [] HGt.out ⟨rfl, RwAt.nil _ _ _ _, Nat.le_refl _, (show (0 : Nat) ≤ 9223372036854775807 by decide)⟩ ((HFr.out).below HBt.out HWr.out) (Nat.lt_of_lt_of_le HWr.out HBt.out.size) (by decide)).mono ?_
          rintro e wz (⟨hno, -⟩ | ⟨-, rfl, hGz, hMz⟩)
          · exact absurd hno HYS.out.1
          rw [HYS.out.2] at hGz
          have HGz := Lib.hid hGz
          have HMz := Lib.hid (HM.out.trans ((Mod.of_below HBt.out).trans hMz))
          clear hGz hMz
          go_wp2_with fail
          go_roundg (n - (i + 1))
          case measure => exact hms
          case rel => exact ⟨i + 1, rfl, hi1, by first | rfl | rw [HWI.out], HGz.out, HMz.out⟩
        have HML := Lib.hid (hml rfl)
        clear hml
        have hadd : Hid (0 < i → x.client ≠ c ∨ x.kind ≠ 14 → Calls Tryz.prog 11 #[.pointer (some ⟨gb, 0, none⟩), .agg x.cells.toArray] wx fun e w' => e = .returned (.bool false) ∧ Below wx.heap.size wx w') := Lib.hid (fun h0 hh => (gaAdd_any wx gb _ x mv (HGA.out.below' HBT.out) (HMV.out.below' (HB0r.out.trans (HBT.out.mono HB0r.out.size))) (HFr.out.below HBT.out HWr.out) (Nat.lt_of_lt_of_le HWr.out HBT.out.size) (by have := HMV.out.len; have := HML.out; omega)).mono (by
          rintro e w' (⟨-, rfl, hB⟩ | ⟨hno, -⟩)
          · exact ⟨rfl, hB⟩
          · exact absurd (join_other s c i h0 g1 x mv hh) hno))
        by_cases h0 : i = 0
        · subst h0
          have c0 : wx.cell? ⟨ob, oo, none⟩ = some (.int .i64 x.client) := by simpa using c0
          have c2 : wx.cell? ⟨ob, oo + 2, none⟩ = some (.int .i64 x.kind) := by simpa using c2
          by_cases hcl : x.client = c
          · have qc : (x.client != c) = false := by simp [hcl]
            by_cases hk : x.kind = 14
            · have qk : (x.kind != 14) = false := by simp [hk]
              clear hcl hk
              go_wp2_with fail
              have HGT := Lib.hid (HGA.out.below' HBT.out)
              have HBT0 := Lib.hid HBT.out
              go_wp2_with fail
              refine (gaText_any _ gb _ HGT.out).mono ?_
              rintro e wt ⟨he, hBt⟩
              rw [HMID.out] at he
              subst he
              generalize (gaUp s c 0).text.1 = tx
              have HBt := Lib.hid (HBT0.out.trans (hBt.mono HBT0.out.size))
              have HGt := Lib.hid (HGA.out.below' HBt.out)
              have HR : Hid (wt.rangeAt pb (po + 0 * 12) (pcRow s c (1 + q) 0).cells) := Lib.hid (rng_below HPR.out HPL.out HBt.out)
              clear hBt
              go_wp2_with (refine wpList_load_mid_w (by rfl) 33 _ (by rfl) pb (po + 0 * 12) (by rfl) (pcRow s c (1 + q) 0).cells _ HR.out Tryz.underlying33 rfl Tryz.infoOp12 ?_)
              refine (gaAdd_any wt gb _ (pcRow s c (1 + q) 0) [] HGt.out ⟨rfl, RwAt.nil _ _ _ _, Nat.le_refl _, (show (0 : Nat) ≤ 9223372036854775807 by decide)⟩ ((HFr.out).below HBt.out HWr.out) (Nat.lt_of_lt_of_le HWr.out HBt.out.size) (by decide)).mono ?_
              rintro e wz (⟨hno, -⟩ | ⟨-, rfl, hGz, hMz⟩)
              · exact absurd hno HYS.out.1
              rw [HYS.out.2] at hGz
              have HGz := Lib.hid hGz
              have HMz := Lib.hid (HM.out.trans ((Mod.of_below HBt.out).trans hMz))
              clear hGz hMz
              go_wp2_with fail
              go_roundg (n - (0 + 1))
              case measure => exact hms
              case rel => exact ⟨0 + 1, rfl, hi1, by first | rfl | rw [HWI.out], HGz.out, HMz.out⟩
            · have qk : (x.kind != 14) = true := by simpa using hk
              clear hcl hk
              go_wp2_with fail
              have HGT := Lib.hid (HGA.out.below' HBT.out)
              have HBT0 := Lib.hid HBT.out
              go_wp2_with fail
              refine (gaText_any _ gb _ HGT.out).mono ?_
              rintro e wt ⟨he, hBt⟩
              rw [HMID.out] at he
              subst he
              generalize (gaUp s c 0).text.1 = tx
              have HBt := Lib.hid (HBT0.out.trans (hBt.mono HBT0.out.size))
              have HGt := Lib.hid (HGA.out.below' HBt.out)
              have HR : Hid (wt.rangeAt pb (po + 0 * 12) (pcRow s c (1 + q) 0).cells) := Lib.hid (rng_below HPR.out HPL.out HBt.out)
              clear hBt
              go_wp2_with (refine wpList_load_mid_w (by rfl) 33 _ (by rfl) pb (po + 0 * 12) (by rfl) (pcRow s c (1 + q) 0).cells _ HR.out Tryz.underlying33 rfl Tryz.infoOp12 ?_)
              refine (gaAdd_any wt gb _ (pcRow s c (1 + q) 0) [] HGt.out ⟨rfl, RwAt.nil _ _ _ _, Nat.le_refl _, (show (0 : Nat) ≤ 9223372036854775807 by decide)⟩ ((HFr.out).below HBt.out HWr.out) (Nat.lt_of_lt_of_le HWr.out HBt.out.size) (by decide)).mono ?_
              rintro e wz (⟨hno, -⟩ | ⟨-, rfl, hGz, hMz⟩)
              · exact absurd hno HYS.out.1
              rw [HYS.out.2] at hGz
              have HGz := Lib.hid hGz
              have HMz := Lib.hid (HM.out.trans ((Mod.of_below HBt.out).trans hMz))
              clear hGz hMz
              go_wp2_with fail
              go_roundg (n - (0 + 1))
              case measure => exact hms
              case rel => exact ⟨0 + 1, rfl, hi1, by first | rfl | rw [HWI.out], HGz.out, HMz.out⟩
          · have qc : (x.client != c) = true := by simpa using hcl
            clear hcl
            go_wp2_with fail
            have HGT := Lib.hid (HGA.out.below' HBT.out)
            have HBT0 := Lib.hid HBT.out
            go_wp2_with fail
            refine (gaText_any _ gb _ HGT.out).mono ?_
            rintro e wt ⟨he, hBt⟩
            rw [HMID.out] at he
            subst he
            generalize (gaUp s c 0).text.1 = tx
            have HBt := Lib.hid (HBT0.out.trans (hBt.mono HBT0.out.size))
            have HGt := Lib.hid (HGA.out.below' HBt.out)
            have HR : Hid (wt.rangeAt pb (po + 0 * 12) (pcRow s c (1 + q) 0).cells) := Lib.hid (rng_below HPR.out HPL.out HBt.out)
            clear hBt
            go_wp2_with (refine wpList_load_mid_w (by rfl) 33 _ (by rfl) pb (po + 0 * 12) (by rfl) (pcRow s c (1 + q) 0).cells _ HR.out Tryz.underlying33 rfl Tryz.infoOp12 ?_)
            refine (gaAdd_any wt gb _ (pcRow s c (1 + q) 0) [] HGt.out ⟨rfl, RwAt.nil _ _ _ _, Nat.le_refl _, (show (0 : Nat) ≤ 9223372036854775807 by decide)⟩ ((HFr.out).below HBt.out HWr.out) (Nat.lt_of_lt_of_le HWr.out HBt.out.size) (by decide)).mono ?_
            rintro e wz (⟨hno, -⟩ | ⟨-, rfl, hGz, hMz⟩)
            · exact absurd hno HYS.out.1
            rw [HYS.out.2] at hGz
            have HGz := Lib.hid hGz
            have HMz := Lib.hid (HM.out.trans ((Mod.of_below HBt.out).trans hMz))
            clear hGz hMz
            go_wp2_with fail
            go_roundg (n - (0 + 1))
            case measure => exact hms
            case rel => exact ⟨0 + 1, rfl, hi1, by first | rfl | rw [HWI.out], HGz.out, HMz.out⟩
        have h0' : (0 : Int) < (i : Int) := by omega
        have hq0 : decide ((0 : Int) < (i : Int)) = true := by simpa using h0'
        by_cases hcl : x.client = c
        · have qc : (x.client != c) = false := by simp [hcl]
          by_cases hk : x.kind = 14
          · have qk : (x.kind != 14) = false := by simp [hk]
            clear hcl hk
            go_wp2_with fail
            have HGT := Lib.hid (HGA.out.below' HBT.out)
            have HBT0 := Lib.hid HBT.out
            go_wp2_with fail
            refine (gaText_any _ gb _ HGT.out).mono ?_
            rintro e wt ⟨he, hBt⟩
            rw [HMID.out] at he
            subst he
            generalize (gaUp s c i).text.1 = tx
            have HBt := Lib.hid (HBT0.out.trans (hBt.mono HBT0.out.size))
            have HGt := Lib.hid (HGA.out.below' HBt.out)
            have HR : Hid (wt.rangeAt pb (po + i * 12) (pcRow s c (1 + q) i).cells) := Lib.hid (rng_below HPR.out HPL.out HBt.out)
            clear hBt
            go_wp2_with (refine wpList_load_mid_w (by rfl) 33 _ (by rfl) pb (po + i * 12) (by rfl) (pcRow s c (1 + q) i).cells _ HR.out Tryz.underlying33 rfl Tryz.infoOp12 ?_)
            refine (gaAdd_any wt gb _ (pcRow s c (1 + q) i) [] HGt.out ⟨rfl, RwAt.nil _ _ _ _, Nat.le_refl _, (show (0 : Nat) ≤ 9223372036854775807 by decide)⟩ ((HFr.out).below HBt.out HWr.out) (Nat.lt_of_lt_of_le HWr.out HBt.out.size) (by decide)).mono ?_
            rintro e wz (⟨hno, -⟩ | ⟨-, rfl, hGz, hMz⟩)
            · exact absurd hno HYS.out.1
            rw [HYS.out.2] at hGz
            have HGz := Lib.hid hGz
            have HMz := Lib.hid (HM.out.trans ((Mod.of_below HBt.out).trans hMz))
            clear hGz hMz
            go_wp2_with fail
            go_roundg (n - (i + 1))
            case measure => exact hms
            case rel => exact ⟨i + 1, rfl, hi1, by first | rfl | rw [HWI.out], HGz.out, HMz.out⟩
          · have qk : (x.kind != 14) = true := by simpa using hk
            have HAD := Lib.hid (hadd.out (by omega) (Or.inr hk))
            clear hcl hk
            go_wp2_with (refine wpList_load_mid_w (by rfl) 33 _ (by rfl) ob (oo + i * 12) (by rfl) x.cells _ HR.out Tryz.underlying33 rfl Tryz.infoOp12 ?_)
            refine HAD.out.mono ?_
            rintro e wy ⟨rfl, hBy⟩
            have HBT := Lib.hid (HBT.out.trans (hBy.mono HBT.out.size))
            clear hBy
            go_wp2_with fail
            have HGT := Lib.hid (HGA.out.below' HBT.out)
            have HBT0 := Lib.hid HBT.out
            go_wp2_with fail
            refine (gaText_any _ gb _ HGT.out).mono ?_
            rintro e wt ⟨he, hBt⟩
            rw [HMID.out] at he
            subst he
            generalize (gaUp s c i).text.1 = tx
            have HBt := Lib.hid (HBT0.out.trans (hBt.mono HBT0.out.size))
            have HGt := Lib.hid (HGA.out.below' HBt.out)
            have HR : Hid (wt.rangeAt pb (po + i * 12) (pcRow s c (1 + q) i).cells) := Lib.hid (rng_below HPR.out HPL.out HBt.out)
            clear hBt
            go_wp2_with (refine wpList_load_mid_w (by rfl) 33 _ (by rfl) pb (po + i * 12) (by rfl) (pcRow s c (1 + q) i).cells _ HR.out Tryz.underlying33 rfl Tryz.infoOp12 ?_)
            refine (gaAdd_any wt gb _ (pcRow s c (1 + q) i) [] HGt.out ⟨rfl, RwAt.nil _ _ _ _, Nat.le_refl _, (show (0 : Nat) ≤ 9223372036854775807 by decide)⟩ ((HFr.out).below HBt.out HWr.out) (Nat.lt_of_lt_of_le HWr.out HBt.out.size) (by decide)).mono ?_
            rintro e wz (⟨hno, -⟩ | ⟨-, rfl, hGz, hMz⟩)
            · exact absurd hno HYS.out.1
            rw [HYS.out.2] at hGz
            have HGz := Lib.hid hGz
            have HMz := Lib.hid (HM.out.trans ((Mod.of_below HBt.out).trans hMz))
            clear hGz hMz
            go_wp2_with fail
            go_roundg (n - (i + 1))
            case measure => exact hms
            case rel => exact ⟨i + 1, rfl, hi1, by first | rfl | rw [HWI.out], HGz.out, HMz.out⟩
        · have qc : (x.client != c) = true := by simpa using hcl
          have HAD := Lib.hid (hadd.out (by omega) (Or.inl hcl))
          clear hcl
          go_wp2_with (refine wpList_load_mid_w (by rfl) 33 _ (by rfl) ob (oo + i * 12) (by rfl) x.cells _ HR.out Tryz.underlying33 rfl Tryz.infoOp12 ?_)
          refine HAD.out.mono ?_
          rintro e wy ⟨rfl, hBy⟩
          have HBT := Lib.hid (HBT.out.trans (hBy.mono HBT.out.size))
          clear hBy
          go_wp2_with fail
          have HGT := Lib.hid (HGA.out.below' HBT.out)
          have HBT0 := Lib.hid HBT.out
          go_wp2_with fail
          refine (gaText_any _ gb _ HGT.out).mono ?_
          rintro e wt ⟨he, hBt⟩
          rw [HMID.out] at he
          subst he
          generalize (gaUp s c i).text.1 = tx
          have HBt := Lib.hid (HBT0.out.trans (hBt.mono HBT0.out.size))
          have HGt := Lib.hid (HGA.out.below' HBt.out)
          have HR : Hid (wt.rangeAt pb (po + i * 12) (pcRow s c (1 + q) i).cells) := Lib.hid (rng_below HPR.out HPL.out HBt.out)
          clear hBt
          go_wp2_with (refine wpList_load_mid_w (by rfl) 33 _ (by rfl) pb (po + i * 12) (by rfl) (pcRow s c (1 + q) i).cells _ HR.out Tryz.underlying33 rfl Tryz.infoOp12 ?_)
          refine (gaAdd_any wt gb _ (pcRow s c (1 + q) i) [] HGt.out ⟨rfl, RwAt.nil _ _ _ _, Nat.le_refl _, (show (0 : Nat) ≤ 9223372036854775807 by decide)⟩ ((HFr.out).below HBt.out HWr.out) (Nat.lt_of_lt_of_le HWr.out HBt.out.size) (by decide)).mono ?_
          rintro e wz (⟨hno, -⟩ | ⟨-, rfl, hGz, hMz⟩)
          · exact absurd hno HYS.out.1
          rw [HYS.out.2] at hGz
          have HGz := Lib.hid hGz
          have HMz := Lib.hid (HM.out.trans ((Mod.of_below HBt.out).trans hMz))
          clear hGz hMz
          go_wp2_with fail
          go_roundg (n - (i + 1))
          case measure => exact hms
          case rel => exact ⟨i + 1, rfl, hi1, by first | rfl | rw [HWI.out], HGz.out, HMz.out⟩
      · have hoi : ¬ (i : Int) < (l.length : Int) := fun h => hol (Int.ofNat_lt.1 h)
        clear hol
        go_wp2_with fail
        have HGT := Lib.hid (HGA.out.below' HBT.out)
        have HBT0 := Lib.hid HBT.out
        go_wp2_with fail
        refine (gaText_any _ gb _ HGT.out).mono ?_
        rintro e wt ⟨he, hBt⟩
        rw [HMID.out] at he
        subst he
        generalize (gaUp s c i).text.1 = tx
        have HBt := Lib.hid (HBT0.out.trans (hBt.mono HBT0.out.size))
        have HGt := Lib.hid (HGA.out.below' HBt.out)
        have HR : Hid (wt.rangeAt pb (po + i * 12) (pcRow s c (1 + q) i).cells) := Lib.hid (rng_below HPR.out HPL.out HBt.out)
        clear hBt
        go_wp2_with (refine wpList_load_mid_w (by rfl) 33 _ (by rfl) pb (po + i * 12) (by rfl) (pcRow s c (1 + q) i).cells _ HR.out Tryz.underlying33 rfl Tryz.infoOp12 ?_)
        refine (gaAdd_any wt gb _ (pcRow s c (1 + q) i) [] HGt.out ⟨rfl, RwAt.nil _ _ _ _, Nat.le_refl _, (show (0 : Nat) ≤ 9223372036854775807 by decide)⟩ ((HFr.out).below HBt.out HWr.out) (Nat.lt_of_lt_of_le HWr.out HBt.out.size) (by decide)).mono ?_
        rintro e wz (⟨hno, -⟩ | ⟨-, rfl, hGz, hMz⟩)
        · exact absurd hno HYS.out.1
        rw [HYS.out.2] at hGz
        have HGz := Lib.hid hGz
        have HMz := Lib.hid (HM.out.trans ((Mod.of_below HBt.out).trans hMz))
        clear hGz hMz
        go_wp2_with fail
        go_roundg (n - (i + 1))
        case measure => exact hms
        case rel => exact ⟨i + 1, rfl, hi1, by first | rfl | rw [HWI.out], HGz.out, HMz.out⟩
    · obtain rfl : i = n := Nat.le_antisymm hi (Nat.not_lt.1 hlt)
      have hge : ¬ (i : Int) < i := Int.lt_irrefl _
      obtain ⟨pb, po, rfl, hpg, hpl, hpr⟩ := op_at HPC.out default (i := 0) (by rw [pcRows_len]; omega)
      rw [pcRows_at _ _ _ (by omega : 0 < i)] at hpr
      have HPR := Lib.hid (rng_mod hpr HM.out (fun e => by subst e; exact Nat.lt_irrefl _ hpg))
      have HPL := Lib.hid (Nat.lt_of_lt_of_le hpl HM.out.size)
      have HOV := Lib.hid (join_over s c i HN.out g1 (pcRow s c (1 + q) 0) [])
      have HEN := Lib.hid (join_end s c i HN.out g1)
      have hn1' : (0 : Int) < (i : Int) := by omega
      clear hpr hpl hpg hlt hi
      go_wp2_with fail
      refine (gaText_any _ gb _ HGA.out).mono ?_
      rintro e wt ⟨he, hBt⟩
      rw [HEN.out] at he
      subst he
      have HBt := Lib.hid hBt
      have HR : Hid (wt.rangeAt pb po (pcRow s c (1 + q) 0).cells) := Lib.hid (by have := rng_below HPR.out HPL.out hBt; simpa using this)
      clear hBt
      go_wp2_with (refine wpList_load_mid_w (by rfl) 33 _ (by rfl) pb po (by rfl) (pcRow s c (1 + q) 0).cells _ HR.out Tryz.underlying33 rfl Tryz.infoOp12 ?_)
      refine (gaAdd_any wt gb _ (pcRow s c (1 + q) 0) [] (HGA.out.below' HBt.out) ⟨rfl, RwAt.nil _ _ _ _, Nat.le_refl _, (show (0 : Nat) ≤ 9223372036854775807 by decide)⟩ (HFr.out.below HBt.out HWr.out) (Nat.lt_of_lt_of_le HWr.out HBt.out.size) (by decide)).mono ?_
      rintro e wz (⟨-, rfl, hBz⟩ | ⟨hno, -⟩)
      rotate_left 1
      · exact absurd HOV.out hno
      have HB := Lib.hid (HB0r.out.trans ((HBt.out.trans (hBz.mono HBt.out.size)).mono HB0r.out.size))
      clear hBz
      go_wp2_with fail
      refine (wakes26_any _).mono ?_
      rintro e w4 ⟨rfl, hB4⟩
      go_wp2_with fail
      exact HP.out _ (HB.out.trans (hB4.mono HB.out.size))
end Go.Proofs.YtpfcomepecgcmaaGreatDoor
