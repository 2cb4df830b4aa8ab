import Derived.Test.YtpfcomepecgcmaaGreatDoorPkGa
import Derived.Test.YtpfcomepecgcmaaGreatDoorPkWk
import Derived.Test.YtpfcomepecgcmaaGreatDoorRKnown
/- pieces that are put together again: plainly -/
namespace Esch
open Go Go.RowKit
end Esch
/- keep.Mod at the numbers of the image laws -/
namespace Go.Proofs.YtpfcomepecgcmaaGreatDoor
open Go.RowKit Esch
end Go.Proofs.YtpfcomepecgcmaaGreatDoor
/- the walk of the law ImageJoins -/
namespace Esch
open Go Go.RowKit
instance : Inhabited OpS := ⟨opN 0 0 0⟩
theorem OpS.cells_len (x : OpS) : x.cells.length = 12 := rfl
theorem pcRows_at (s : ByteArray) (c q : Int) {n i : Nat} (h : i < n) (d : OpS) : (pcRows s c q n).getD i d = pcRow s c q i := by
  unfold pcRows
  rw [List.getD_eq_getElem?_getD, List.getElem?_eq_getElem (by simpa using h)]
  simp
/-- a row's thing, as its range and two of its cells -/
theorem op_at {w : World} {S : Nat → Prop} {l : List OpS} {ao : Option Addr} (h : RwAt w S 12 l.length ao (l.flatMap OpS.cells)) (d : OpS) {i : Nat} (hi : i < l.length) :
    ∃ b off, ao = some ⟨b, off, none⟩ ∧ S b ∧ b < w.heap.size ∧ w.rangeAt b (off + i * 12) (l.getD i d).cells := by
  obtain ⟨b, off, e, hs, hb, hc⟩ := h.elem OpS.cells_len d hi
  refine ⟨b, off, e, hs, hb, fun j v hv => ?_⟩
  have hj : j < 12 := by rw [← OpS.cells_len (l.getD i d)]; exact (List.getElem?_eq_some_iff.1 hv).1
  exact (hc j hj).trans hv
theorem rng_below {w w' : World} {b o : Nat} {l : List Value} (h : w.rangeAt b o l) (hb : b < w.heap.size) (hB : Below w.heap.size w w') : w'.rangeAt b o l := fun j v hv => below_at hB (h j v hv) hb
theorem rng_mod {F : Nat → Prop} {w w' : World} {b o : Nat} {l : List Value} (h : w.rangeAt b o l) (hM : Mod F w w') (hb : ¬ F b) : w'.rangeAt b o l := fun j v hv => hM.at (h j v hv) hb
end Esch
namespace Go.Proofs.YtpfcomepecgcmaaGreatDoor
open Go.RowKit Esch Go.Shelf

theorem Tryz.infoOp12 : (Tryz.prog.info? 33).map (·.size) = some 12 := by kernel_rfl
end Go.Proofs.YtpfcomepecgcmaaGreatDoor
/- the walk of the law ImagePieces -/
namespace Esch
open Go Go.RowKit
/-- a load of a row or a struct whose cells S gives -/
theorem kwM {P : Program} {ops : Array Oper} {Q : Exit → Act → World → Prop} {S : World → Prop} {o : Oper} {rest : List Oper} {a : Act} (hw : Region.wanted o (yielded ops a.tmps) = true) (ty : TypeId) (x : Operand) (ho : o.op = .load ty x) (b o' : Nat) (hx : a.eval x = .pointer (some ⟨b, o', none⟩)) (cs : List Value) (d : TypeDesc) (hS : ∀ W, S W → W.rangeAt b o' cs)
    (hu : P.underlying ty = some d) (hd : d.isRow = true) (hi : (P.info? ty).map (·.size) = some cs.length) (h : KWalk P ops S Q rest (a.put o.dst (.agg cs.toArray))) : KWalk P ops S Q (o :: rest) a :=
  kw_val hw (fun W hW => by unfold execOp; simp only [ho, hx, Instr.loadAt, Instr.sureAddr, Sem.run_bind, Sem.run_pure, Result.andThen_ok, run_loadVar_mid W b o' ty cs d (hS W hW) hu hd hi]) rfl h
def PcsRel (w5 : World) (n : Nat) (g : Nat) (v : Value) (wr : World) : Prop := ∃ i : Nat, g = n - i ∧ i ≤ n ∧ v = .int .i64 i ∧ Below w5.heap.size w5 wr
def PgRel (w6 : World) (n gb qb : Nat) (g : Nat) (v : Value) (wr : World) : Prop := ∃ (i : Nat) (s : GaS), g = n - i ∧ i ≤ n ∧ v = .int .i64 i ∧ GaAt wr gb s ∧ RGaAt wr qb s ∧ Mod (· = gb) w6 wr
noncomputable def pcN (s : ByteArray) (c q : Int) : Nat × Int := open Classical in if PcBad s.size c q then (0, 1) else ((s.size + 1023) / 1024, 0)
theorem pcN_le (s : ByteArray) (c q : Int) : (pcN s c q).1 ≤ 64 := by
  unfold pcN
  split
  · exact Nat.zero_le _
  · rename_i h
    have : ¬ 65536 < s.size := fun h2 => h (Or.inr (Or.inl h2))
    show (s.size + 1023) / 1024 ≤ 64
    omega
theorem PcsPost.one {w w' : World} {s : ByteArray} {c q : Int} {e : Ending} (h : PcsPost w s c q e w') : ∃ a cap, e = .returned (.tuple #[.slice a (pcN s c q).1 cap, .int .i64 (pcN s c q).2]) ∧ RwAt w' (fun _ => True) 12 (pcRows s c q (pcN s c q).1).length a ((pcRows s c q (pcN s c q).1).flatMap OpS.cells) ∧ Below w.heap.size w w' := by
  obtain ⟨hB, ⟨hb, rfl⟩ | ⟨hb, a, cap, rfl, hG⟩⟩ := h
  · unfold pcN
    rw [if_pos hb]
    exact ⟨none, 0, rfl, RwAt.nil _ _ _ _, hB⟩
  · unfold pcN
    rw [if_neg hb]
    refine ⟨a, cap, rfl, ?_, hB⟩
    rw [pcRows_len]
    exact hG.row.sub (fun _ _ _ => trivial)
theorem alike_self (x : OpS) : x.alike x = true := by simp [OpS.alike]
end Esch
namespace Go.Proofs.YtpfcomepecgcmaaGreatDoor
open Go.RowKit Esch Go.Shelf

/-- what both tell of a piece, and what they are behind it -/
def GaStep (s : GaS) (x : OpS) (mv : List Mv) (v : Bool) (s' : GaS) : Prop := (s.no x mv ∧ v = false ∧ s' = s) ∨ (¬ s.no x mv ∧ v = true ∧ s' = s.put x)
theorem gaStep (s : GaS) (x : OpS) (mv : List Mv) : ∃ v s', GaStep s x mv v s' := by
  by_cases h : s.no x mv
  · exact ⟨false, s, Or.inl ⟨h, rfl, rfl⟩⟩
  · exact ⟨true, s.put x, Or.inr ⟨h, rfl, rfl⟩⟩
theorem GaStep.prog {s s' : GaS} {x : OpS} {mv : List Mv} {v : Bool} (h : GaStep s x mv v s') (w : World) (b : Nat) (hg : GaAt w b s) (hin : OpIn w x mv) (hf : FieldsAt w) (hw : 0 < w.heap.size) (h16 : mv.length ≤ 100000) :
    Calls Tryz.prog 11 #[.pointer (some ⟨b, 0, none⟩), .agg x.cells.toArray] w fun e w' => e = .returned (.bool v) ∧ GaAt w' b s' ∧ Mod (· = b) w w' := by
  refine (gaAdd_any w b s x mv hg hin hf hw h16).mono ?_
  rintro e w' h2
  rcases h with ⟨hn, rfl, rfl⟩ | ⟨hn, rfl, rfl⟩ <;> rcases h2 with ⟨hm, rfl, h3⟩ | ⟨hm, rfl, h3, h4⟩
  · exact ⟨rfl, hg.below' h3, Mod.of_below h3⟩
  · exact absurd hn hm
  · exact absurd hm hn
  · exact ⟨rfl, h3, h4⟩
theorem GaStep.doc {s s' : GaS} {x : OpS} {mv : List Mv} {v : Bool} (h : GaStep s x mv v s') (w : World) (b : Nat) (hg : RGaAt w b s) (hR : RGd w x mv) :
    Calls Tryz.prog 12 #[.pointer (some ⟨b, 0, none⟩), .agg x.cells.toArray] w fun e w' => e = .returned (.bool v) ∧ RGaAt w' b s' ∧ Mod (· = b) w w' := by
  refine (rgaAdd_any w b s x mv hg hR).mono ?_
  rintro e w' h2
  rcases h with ⟨hn, rfl, rfl⟩ | ⟨hn, rfl, rfl⟩ <;> rcases h2 with ⟨hm, rfl, h3⟩ | ⟨hm, rfl, h3, h4⟩
  · exact ⟨rfl, hg.below' h3, Mod.of_below h3⟩
  · exact absurd hn hm
  · exact absurd hm hn
  · exact ⟨rfl, h3, h4⟩
set_option maxRecDepth 100000 in
set_option maxHeartbeats 8000000 in
theorem imPieces_any (w : World) (s : ByteArray) (n0 n1 : Int) (a : Option Addr) (cap : Nat) (l : List OpS) (hl : RwAt w (fun _ => True) 12 l.length a (l.flatMap OpS.cells)) (_hcap : l.length ≤ cap) (hop : ∀ x ∈ l, ∃ mv, OpIn w x mv) (hf : FieldsAt w) (hw : 0 < w.heap.size) (hs : s.size ≤ 9223372036854775807) :
    Calls Tryz.prog 3 #[.string s, .agg #[.int .i64 n0, .int .i64 n1], .slice a l.length cap] w fun e w' => e = .returned (.bool true) ∧ Below w.heap.size w w' := by
  have HP : Hid (∀ w', Below w.heap.size w w' → (fun (e : Ending) (w' : World) => e = .returned (.bool true) ∧ Below w.heap.size w w') (.returned (.bool true)) w') := Lib.hid (fun w' h => ⟨rfl, h⟩)
  generalize (fun (e : Ending) (w' : World) => e = .returned (.bool true) ∧ Below w.heap.size w w') = R at HP ⊢
  have HL := Lib.hid hl
  have HOP := Lib.hid hop
  have HF := Lib.hid hf
  have HWS := Lib.hid hw
  obtain ⟨W1, hW1⟩ : ∃ W1, W1 = w.alloc (.cells #[.int .i64 n0, .int .i64 n1] 22) := ⟨_, rfl⟩
  have hB1 : Below w.heap.size w W1 := by rw [hW1]; exact belC (Below.refl _ _)
  have c0 : W1.cell? ⟨w.heap.size, 0, none⟩ = some (.int .i64 n0) := by rw [hW1]; go_simp
  have c1 : W1.cell? ⟨w.heap.size, 1, none⟩ = some (.int .i64 n1) := by rw [hW1]; go_simp
  have HB := Lib.hid hB1
  have HC0 := Lib.hid c0
  have HC1 := Lib.hid c1
  have HW1 := Lib.hid hW1
  clear hl hop hf hw hB1 hW1 c0 c1
  go_enter Tryz.func3, Tryz.ntmps3
  by_cases h1 : 70000 < s.size
  · go_wp2_with fail
    rw [← HW1.out]
    refine (wakes26_any _).mono ?_
    rintro e wk ⟨rfl, hBk⟩
    have HBk := Lib.hid (HB.out.trans (hBk.mono HB.out.size))
    clear hBk
    go_wp2_with fail
    exact HP.out _ HBk.out
  by_cases h2 : 100 < l.length
  · go_wp2_with fail
    rw [← HW1.out]
    refine (wakes26_any _).mono ?_
    rintro e wk ⟨rfl, hBk⟩
    have HBk := Lib.hid (HB.out.trans (hBk.mono HB.out.size))
    clear hBk
    go_wp2_with fail
    exact HP.out _ HBk.out
  have g2 : l.length ≤ 100 := by omega
  go_wp2_with fail
  rw [← HW1.out]
  refine (imgPieces_any _ s n0 n1 (by omega)).mono ?_
  intro e w2 hp2
  obtain ⟨pa, pc, rfl, hra, hB2⟩ := hp2.one
  clear hp2
  have c0 := below_at hB2 HC0.out (cell_lt HC0.out)
  have c1 := below_at hB2 HC1.out (cell_lt HC0.out)
  have HB2 := Lib.hid (HB.out.trans (hB2.mono HB.out.size))
  have HRA := Lib.hid hra
  have hn := pcN_le s n0 n1
  have hpb := fun W => rimgPieces_any W s n0 n1 (by omega)
  have HONE := Lib.hid (fun (W : World) (e : Ending) (w' : World) (h : PcsPost W s n0 n1 e w') => h.one)
  obtain ⟨nn, hnn⟩ : ∃ nn, nn = pcN s n0 n1 := ⟨_, rfl⟩
  rw [← hnn] at HRA HONE hn ⊢
  obtain ⟨n, ec⟩ := nn
  simp only at HRA HONE hn ⊢
  clear hB2 hra hnn
  go_wp2_with fail
  refine (hpb _).mono ?_
  clear hpb
  intro e w5 hp5
  obtain ⟨pb, pd, rfl, hrb, hB5⟩ := HONE.out _ _ _ hp5
  have HRB := Lib.hid hrb
  have HRA := Lib.hid (HRA.out.below' hB5)
  have HB5 := Lib.hid (HB2.out.trans (hB5.mono HB2.out.size))
  clear hrb hB5 hp5 c0 c1
  go_wp2_with fail
  go_loopg [11] n (fun g v wr => PcsRel w5 n g v wr)
  case atStart => exact ⟨0, rfl, Nat.zero_le _, rfl, Below.refl _ _⟩
  case round =>
    obtain ⟨i, hg, hi, rfl, hB⟩ := hrel
    subst hg
    have HBr := Lib.hid hB
    clear hB
    by_cases hlt : i < n
    · obtain ⟨xb, xo, rfl, -, hxl, hxr⟩ := op_at HRA.out default (i := i) (by rw [pcRows_len]; exact hlt)
      obtain ⟨yb, yo, rfl, -, hyl, hyr⟩ := op_at HRB.out default (i := i) (by rw [pcRows_len]; exact hlt)
      rw [pcRows_at _ _ _ hlt] at hxr hyr
      have HS : Hid ((wr.drew.rangeAt xb (xo + i * 12) (pcRow s n0 n1 i).cells ∧ wr.drew.rangeAt yb (yo + i * 12) (pcRow s n0 n1 i).cells) ∧ Below w5.heap.size w5 wr.drew) := Lib.hid ⟨⟨rng_below hxr hxl HBr.out.drew, rng_below hyr hyl HBr.out.drew⟩, HBr.out.drew⟩
      have HN : Hid (∀ W W', ((W.rangeAt xb (xo + i * 12) (pcRow s n0 n1 i).cells ∧ W.rangeAt yb (yo + i * 12) (pcRow s n0 n1 i).cells) ∧ Below w5.heap.size w5 W) → Below W.heap.size W W' → ((W'.rangeAt xb (xo + i * 12) (pcRow s n0 n1 i).cells ∧ W'.rangeAt yb (yo + i * 12) (pcRow s n0 n1 i).cells) ∧ Below w5.heap.size w5 W')) := Lib.hid (fun W W' h hB => ⟨⟨rng_below h.1.1 (Nat.lt_of_lt_of_le hxl h.2.size) hB, rng_below h.1.2 (Nat.lt_of_lt_of_le hyl h.2.size) hB⟩, h.2.trans (hB.mono h.2.size)⟩)
      have hko : ∀ W, Calls Tryz.prog 8 #[.agg (pcRow s n0 n1 i).cells.toArray, .agg (pcRow s n0 n1 i).cells.toArray] W (BoolB W true) := fun W => by
        have h := kOp_any W (pcRow s n0 n1 i) (pcRow s n0 n1 i) [] [] ⟨rfl, RwAt.nil _ _ _ _, Nat.le_refl _, (show (0 : Nat) ≤ 9223372036854775807 by decide)⟩ (RwAt.nil _ _ _ _) rfl (by decide) (fun _ => rfl)
        rw [alike_self] at h
        exact h
      have hil : (i : Int) < (n : Int) := Int.ofNat_lt.2 hlt
      have hwi : wrap64 ((i : Int) + 1) = ((i + 1 : Nat) : Int) := by unfold wrap64; omega
      have HWI := Lib.hid hwi
      have hms : n - (i + 1) < n - i := Nat.sub_lt_sub_left hlt (Nat.lt_succ_self i)
      have hi1 : i + 1 ≤ n := hlt
      clear hxr hyr hxl hyl hwi
      go_wp2_with fail
      refine region_kwalk (S := fun W => (W.rangeAt xb (xo + i * 12) (pcRow s n0 n1 i).cells ∧ W.rangeAt yb (yo + i * 12) (pcRow s n0 n1 i).cells) ∧ Below w5.heap.size w5 W) (by kernel_rfl) (by kernel_rfl) (by kernel_rfl) HS.out ?_
      repeat (refine kwL ?_)
      refine kwM (by rfl) 33 _ (by rfl) xb (xo + i * 12) (by rfl) (pcRow s n0 n1 i).cells _ (fun W h => h.1.1) Tryz.underlying33 rfl Tryz.infoOp12 ?_
      simp only [Act.put, List.setIfInBounds_toArray, List.set_cons_zero, List.set_cons_succ]
      repeat (refine kwL ?_)
      refine kwM (by rfl) 33 _ (by rfl) yb (yo + i * 12) (by rfl) (pcRow s n0 n1 i).cells _ (fun W h => h.1.2) Tryz.underlying33 rfl Tryz.infoOp12 ?_
      simp only [Act.put, List.setIfInBounds_toArray, List.set_cons_zero, List.set_cons_succ]
      refine kwC (fun W hW => (hko W).low fun W' hB => ⟨rfl, HN.out W W' hW hB⟩) ?_
      refine kwL ?_
      refine kw_nil (fun W hW => ?_)
      have HBW := Lib.hid hW.2
      clear hW hko
      go_wp2_with fail
      go_roundg (n - (i + 1))
      case measure => exact hms
      case rel => exact ⟨i + 1, rfl, hi1, by first | rfl | rw [HWI.out], HBW.out⟩
    · obtain rfl : i = n := Nat.le_antisymm hi (Nat.not_lt.1 hlt)
      have hge : ¬ (i : Int) < (i : Int) := Int.lt_irrefl _
      have HB5 := Lib.hid (HB5.out.trans (HBr.out.mono HB5.out.size))
      obtain ⟨w5, hw5⟩ : ∃ w5, w5 = wr := ⟨_, rfl⟩
      rw [← hw5] at HB5 ⊢
      clear hlt hi hw5 HBr
      go_wp2_with fail
      refine (gaNew_any _).mono ?_
      rintro e w6 ⟨rfl, hA6, hB6⟩
      obtain ⟨gb, hgb⟩ : ∃ gb, gb = w5.heap.size := ⟨_, rfl⟩
      rw [← hgb] at hA6 ⊢
      have HA6 := Lib.hid hA6
      have HGB := Lib.hid hgb
      have HGL := Lib.hid (cell_lt hA6.c0)
      have HB06 := Lib.hid (HB5.out.trans (hB6.mono HB5.out.size))
      have hoth : RwAt w6 (· < gb) 12 l.length a (l.flatMap OpS.cells) := (HL.out.sub (T := (· < gb)) (fun k hk _ => by rw [HGB.out]; exact Nat.lt_of_lt_of_le hk HB5.out.size)).below' HB06.out
      have HOT := Lib.hid hoth
      clear hA6 hB6 hoth hgb
      go_wp2_with fail
      obtain ⟨qb, hqb⟩ : ∃ qb, qb = w6.heap.size := ⟨_, rfl⟩
      rw [← hqb]
      have HQB := Lib.hid hqb
      clear hqb
      go_loopg [14] l.length (fun g v wr => PgRel w6 l.length gb qb g v wr)
      case atStart =>
        refine ⟨0, ga0, rfl, Nat.zero_le _, rfl, HA6.out.below' (by exact belC (Below.refl _ _)), ⟨?_, ?_, ?_, ?_, ?_, ?_, ?_, ?_, by decide, by decide⟩, Mod.of_below (by exact belC (Below.refl _ _))⟩
        all_goals (rw [HQB.out]; go_simp; (try rfl); (try decide))
      case round =>
        obtain ⟨i, s, hg, hi, rfl, hGA, hRG, hM⟩ := hrel
        subst hg
        have HGA := Lib.hid hGA
        have HRG := Lib.hid hRG
        have HM := Lib.hid hM
        have hB0r : Below w.heap.size w wr := HB06.out.trans (hM.below_at HB06.out.size (fun k hk e => by have h1 := HB5.out.size; have h2 := HGB.out; subst e; omega))
        have HB0r := Lib.hid hB0r
        have HFr := Lib.hid (HF.out.below hB0r HWS.out)
        have HWr := Lib.hid (Nat.lt_of_lt_of_le HWS.out hB0r.size)
        have HGQ : Hid (gb ≠ qb) := Lib.hid (by have := HGL.out; have := HQB.out; omega)
        clear hGA hRG hM hB0r
        by_cases hlt : i < l.length
        · obtain ⟨ob, oo, rfl, hog, hbl, hrg⟩ := op_at HOT.out default hlt
          have HOB : Hid (ob ≠ gb ∧ ob ≠ qb) := Lib.hid ⟨Nat.ne_of_lt hog, by have := HQB.out; omega⟩
          have hrg := rng_mod hrg HM.out (fun e => by subst e; exact Nat.lt_irrefl _ hog)
          have hbl := Nat.lt_of_lt_of_le hbl HM.out.size
          have hmem : l.getD i default ∈ l := by
            rw [List.getD_eq_getElem?_getD, List.getElem?_eq_getElem hlt, Option.getD_some]
            exact List.getElem_mem hlt
          obtain ⟨mv, hmv⟩ := HOP.out _ hmem
          obtain ⟨x, hx⟩ : ∃ x, x = l.getD i default := ⟨_, rfl⟩
          rw [← hx] at hrg hmv
          clear hx hmem hog
          have hoi : (i : Int) < (l.length : Int) := Int.ofNat_lt.2 hlt
          have hwi : wrap64 ((i : Int) + 1) = ((i + 1 : Nat) : Int) := by unfold wrap64; omega
          have HWI := Lib.hid hwi
          have hms : l.length - (i + 1) < l.length - i := Nat.sub_lt_sub_left hlt (Nat.lt_succ_self i)
          have hi1 : i + 1 ≤ l.length := hlt
          have HR := Lib.hid hrg
          have HMV := Lib.hid hmv
          have hlg := fun W => largeOp6 W x
          have hml : (decide (2000 < x.path.length) || (decide (2000 < x.dest.length) || (decide (5000 < x.data.size) || decide (100 < x.ml)))) = false → x.ml ≤ 100 ∧ x.path.length ≤ 100000 ∧ x.dest.length ≤ 100000 := fun h => by simp only [Bool.or_eq_false_iff, decide_eq_false_iff_not] at h; omega
          generalize (decide (2000 < x.path.length) || (decide (2000 < x.dest.length) || (decide (5000 < x.data.size) || decide (100 < x.ml)))) = lv at hlg hml
          clear hrg hmv hwi
          go_wp2_with (refine wpList_load_mid (by rfl) 33 _ (by rfl) ob (oo + i * 12) (by rfl) x.cells _ HR.out Tryz.underlying33 rfl Tryz.infoOp12 ?_)
          refine (hlg _).mono ?_
          clear hlg
          rintro e wx ⟨rfl, hBx⟩
          have HR : Hid (wx.rangeAt ob (oo + i * 12) x.cells) := Lib.hid (rng_below HR.out hbl hBx)
          have HGA := Lib.hid (HGA.out.below' hBx)
          have HRG := Lib.hid (HRG.out.below' hBx)
          have HM := Lib.hid (HM.out.trans (Mod.of_below hBx))
          have HFr := Lib.hid (HFr.out.below hBx HWr.out)
          have HWr := Lib.hid (Nat.lt_of_lt_of_le HWr.out hBx.size)
          have HB0r := Lib.hid (HB0r.out.trans (hBx.mono HB0r.out.size))
          have HHB := HB0r
          clear hBx
          cases lv
          rotate_left 1
          · have HB := HB0r
            go_wp2_with fail
            refine (wakes26_any _).mono ?_
            rintro e wk ⟨rfl, hBk⟩
            have HBk := Lib.hid (HB.out.trans (hBk.mono HB.out.size))
            clear hBk
            go_wp2_with fail
            exact HP.out _ HBk.out
          obtain ⟨hm1, hm2, hm3⟩ := hml rfl
          have hm4 : mv.length ≤ 100000 := by have := HMV.out.len; omega
          obtain ⟨v, s', hst⟩ := gaStep s x mv
          have HST := Lib.hid hst
          have HAP : Hid (∀ W, Below w.heap.size w W → GaAt W gb s → Calls Tryz.prog 11 #[.pointer (some ⟨gb, 0, none⟩), .agg x.cells.toArray] W fun e w' => e = .returned (.bool v) ∧ GaAt w' gb s' ∧ Mod (· = gb) W w') := Lib.hid (fun W hB hg => HST.out.prog W gb hg (HMV.out.below' hB) (HF.out.below hB HWS.out) (Nat.lt_of_lt_of_le HWS.out hB.size) hm4)
          have HDP : Hid (∀ W, Below w.heap.size w W → RGaAt W qb s → Calls Tryz.prog 12 #[.pointer (some ⟨qb, 0, none⟩), .agg x.cells.toArray] W fun e w' => e = .returned (.bool v) ∧ RGaAt w' qb s' ∧ Mod (· = qb) W w') := Lib.hid (fun W hB hg => HST.out.doc W qb hg ⟨HMV.out.below' hB, hm4, hm2, hm3⟩)
          have HQG : Hid (∀ k, k < w6.heap.size → k = qb → k = gb) := Lib.hid (fun k hk e => by have := HQB.out; omega)
          have HGW : Hid (∀ W, Mod (· = gb) w6 W → Below w.heap.size w W) := Lib.hid (fun W hM => HB06.out.trans (hM.below_at HB06.out.size (fun k hk e => by have h1 := HB5.out.size; have h2 := HGB.out; subst e; omega)))
          have HS : Hid (wx.drew.rangeAt ob (oo + i * 12) x.cells) := Lib.hid (fun j u hu => HR.out j u hu)
          have HGAd := Lib.hid (HGA.out.below' (Below.refl wx.heap.size wx).drew)
          have HRGd := Lib.hid (HRG.out.below' (Below.refl wx.heap.size wx).drew)
          have HMd := Lib.hid (HM.out.drew)
          clear hml hm1 hm2 hm3 hm4 hst HMV HHB
          go_wp2_with fail
          refine wp_region_held_drew (S := fun W => W.rangeAt ob (oo + i * 12) x.cells) (by kernel_rfl) HS.out (fun hHeld => ?_)
          refine takeL 0 ?_
          refine takeL 1 ?_
          refine takeL 2 ?_
          refine takeL 3 ?_
          refine takeL 4 ?_ (by (simp only [opL, List.getElem?_toArray, List.getElem?_cons_succ, List.getElem?_cons_zero, Option.getD_some]; exact ⟨_, yieldsIf_load_mid (by rfl) 33 _ (by rfl) ob (oo + i * 12) (by rfl) x.cells _ (fun W h => h) Tryz.underlying33 rfl Tryz.infoOp12, fun _ _ _ h => h, (by simp only [Act.put, List.setIfInBounds_toArray, List.set_cons_zero, List.set_cons_succ]; rfl), rfl⟩))
          refine takeL 6 ?_
          refine takeL 7 ?_
          refine takeL 8 ?_
          refine takeL 9 ?_
          refine takeL 10 ?_ (by (simp only [opL, List.getElem?_toArray, List.getElem?_cons_succ, List.getElem?_cons_zero, Option.getD_some]; exact ⟨_, yieldsIf_load_mid (by rfl) 33 _ (by rfl) ob (oo + i * 12) (by rfl) x.cells _ (fun W h => h) Tryz.underlying33 rfl Tryz.infoOp12, fun _ _ _ h => h, (by simp only [Act.put, List.setIfInBounds_toArray, List.set_cons_zero, List.set_cons_succ]; rfl), rfl⟩))
          refine wpAnyH_ready (rs := [5]) (by kernel_rfl) (by simp) ?_
          refine AllReadyH.cons (o := _) rfl (fun K hK => ?_) AllReadyH.nil
          go_simp
          refine (HAP.out _ (HGW.out _ HMd.out) HGAd.out).mono ?_
          rintro e w7 ⟨rfl, hG7, hM7⟩
          have HG7 := Lib.hid hG7
          have HR7 := Lib.hid (HRGd.out.mod hM7 (fun e => HGQ.out e.symm))
          have HM7 := Lib.hid (HMd.out.trans hM7)
          have hk7 := rng_mod HS.out hM7 HOB.out.1
          clear hG7 hM7
          try go_wp2_with fail
          refine hK.out _ _ hk7 (fun hHeld => ?_)
          clear hK K
          try simp only [Act.put, List.setIfInBounds_toArray, List.set_cons_zero, List.set_cons_succ]
          clear hk7
          refine wpAnyH_ready (rs := [11]) (by kernel_rfl) (by simp) ?_
          refine AllReadyH.cons (o := _) rfl (fun K hK => ?_) AllReadyH.nil
          go_simp
          refine (HDP.out _ (HGW.out _ HM7.out) HR7.out).mono ?_
          rintro e w8 ⟨rfl, hR8, hM8⟩
          have HRG := Lib.hid hR8
          have HGA := Lib.hid (HG7.out.mod hM8 HGQ.out)
          have HM := Lib.hid (HM7.out.trans' hM8 HQG.out)
          have hk8 := rng_mod hHeld hM8 HOB.out.2
          clear hR8 hM8 hHeld
          try go_wp2_with fail
          refine hK.out _ _ hk8 (fun hHeld => ?_)
          clear hK K
          try simp only [Act.put, List.setIfInBounds_toArray, List.set_cons_zero, List.set_cons_succ]
          clear hk8
          refine takeL 12 ?_
          refine wpAnyH_done (by kernel_rfl) ?_ _
          clear hHeld
          go_wp2_with fail
          refine (gaText_any _ gb _ HGA.out).mono ?_
          rintro e w8 ⟨rfl, hB8⟩
          have HR8 := Lib.hid (HRG.out.below' hB8)
          have HG8 := Lib.hid (HGA.out.below' hB8)
          have HM8 := Lib.hid (HM.out.trans (Mod.of_below hB8))
          clear hB8
          go_wp2_with fail
          refine (rgaText_any _ qb _ HR8.out).mono ?_
          rintro e w9 ⟨rfl, hB9⟩
          have HR9 := Lib.hid (HR8.out.below' hB9)
          have HG9 := Lib.hid (HG8.out.below' hB9)
          have HM9 := Lib.hid (HM8.out.trans (Mod.of_below hB9))
          clear hB9
          generalize s'.text.1 = tx
          generalize s'.text.2 = tb
          go_wp2_with fail
          go_roundg (l.length - (i + 1))
          case measure => exact hms
          case rel => exact ⟨i + 1, s', rfl, hi1, by first | rfl | rw [HWI.out], HG9.out.below' (by exact belC (Below.refl _ _)), HR9.out.below' (by exact belC (Below.refl _ _)), HM9.out.trans (Mod.of_below (by exact belC (Below.refl _ _)))⟩
        · obtain rfl : i = l.length := Nat.le_antisymm hi (Nat.not_lt.1 hlt)
          have hge : ¬ (l.length : Int) < (l.length : Int) := Int.lt_irrefl _
          have HB := HB0r
          clear hlt hi
          go_wp2_with fail
          refine (wakes26_any _).mono ?_
          rintro e wk ⟨rfl, hBk⟩
          have HBk := Lib.hid (HB.out.trans (hBk.mono HB.out.size))
          clear hBk
          go_wp2_with fail
          exact HP.out _ HBk.out
end Go.Proofs.YtpfcomepecgcmaaGreatDoor
