import Derived.Test.YtmnkackkeppheaaGreatInoRow
import Derived.Test.YtmnkackkeppheaaGreatPkSm
import Derived.Test.YtmnkackkeppheaaGreatStDump
/- law20.Own: inodes in new memory -/
namespace Esch
open Go Go.RowKit
theorem rowNil9 {w : World} {S : Nat → Prop} {size len cap : Nat} {ao : Option Addr} {xs : List Value} (h : GRowAt w S size len cap ao xs) (e : ao = none) : cap = 0 := by
  rcases Nat.eq_zero_or_pos cap with h0 | h0
  · exact h0
  · obtain ⟨b, off, e2, -⟩ := h.at' h0
    rw [e] at e2; cases e2
end Esch
namespace Go.Proofs.YtmnkackkeppheaaGreat
open Go.RowKit Esch Go.Shelf

def IOwnRel (w : World) (l : List InC) (g : Nat) (v3 v4 : Value) (wr : World) : Prop :=
  ∃ (i : Nat) (ao : Option Addr) (cap : Nat) (k : List InC) (R : Nat → Prop), g = l.length - i ∧ i ≤ l.length ∧ v4 = .int .i64 i ∧ v3 = .slice ao i cap ∧ GRowAt wr R 6 i cap ao (k.flatMap InC.cells) ∧ (∀ b, R b → w.heap.size ≤ b ∧ b < wr.heap.size) ∧ (∀ x ∈ k, PcOk wr (fun b => w.heap.size ≤ b ∧ ¬ R b) x) ∧ k.map InC.val = (l.take i).map InC.val ∧ Below w.heap.size w wr
def IOwnPost (w : World) (l : List InC) (e : Ending) (w' : World) : Prop := ∃ a c k, e = .returned (.slice a k.length c) ∧ InosAt w' (From w.heap.size) a k ∧ k.map InC.val = l.map InC.val ∧ Below w.heap.size w w'
end Go.Proofs.YtmnkackkeppheaaGreat
/- the document's own copies of names and handles; how it compares handles -/
namespace Esch
open Go Go.RowKit
theorem enC_one (x : EqK) : ∀ u ∈ enC x, u.oneCell' = true := fun u hu => by
  simp only [enC, List.mem_cons, List.not_mem_nil, or_false] at hu
  rcases hu with rfl | rfl | rfl <;> rfl
theorem hdC_one (x : Hd) : ∀ u ∈ hdC x, u.oneCell' = true := fun u hu => by
  simp only [hdC, List.mem_cons, List.not_mem_nil, or_false] at hu
  rcases hu with rfl | rfl | rfl <;> rfl
end Esch
namespace Go.Proofs.YtmnkackkeppheaaGreat
open Go.RowKit Esch Go.Shelf

end Go.Proofs.YtmnkackkeppheaaGreat
/- a block of cells that tell a function -/
namespace Esch
open Go Go.RowKit
structure FnAt (w : World) (b n : Nat) (f : Nat → Value) : Prop where
  at' : ∀ j, j < n → w.cell? ⟨b, j, none⟩ = some (f j)
  fz : ∀ j, w.frozen? ⟨b, j, none⟩ = false
  lt : b < w.heap.size
theorem FnAt.new (w : World) (T : TypeId) (l : List Value) (n : Nat) (hl : l.length = n) : FnAt (w.alloc (.cells l.toArray T)) w.heap.size n (fun j => (l[j]?).getD undef) := by
  have hb : (w.alloc (.cells l.toArray T)).heap[w.heap.size]? = some (.cells l.toArray T) := heap_alloc_new _ _
  refine ⟨fun j hj => ?_, fun j => by go_simp, by simp⟩
  have h2 : l[j]? = some (l[j]'(by omega)) := List.getElem?_eq_getElem _
  unfold World.cell?
  simp only [hb, h2, Option.getD_some]
  simp [h2]
theorem FnAt.set {w : World} {b n : Nat} {f : Nat → Value} (h : FnAt w b n f) {k : Nat} (hk : k < n) (v : Value) : FnAt (w.setCell ⟨b, k, none⟩ v) b n (upd f k v) := by
  refine ⟨fun j hj => ?_, fun j => (World.frozen?_setCell _ _ _ _).trans (h.fz j), by simpa using h.lt⟩
  unfold upd
  by_cases e : j = k
  · subst e
    have := h.at' j hj
    rw [if_pos rfl]
    go_simp
  · rw [if_neg e, ← h.at' j hj]
    have hne : (⟨b, k, none⟩ : Addr) ≠ ⟨b, j, none⟩ := fun e' => e (by have := congrArg Addr.off e'; simp only at this; omega)
    apply World.cell?_setCell_other; exact hne
theorem FnAt.below {w w' : World} {b n : Nat} {f : Nat → Value} (h : FnAt w b n f) (hB : Below w.heap.size w w') : FnAt w' b n f :=
  ⟨fun j hj => below_at hB (h.at' j hj) h.lt, fun j => ((Mod.of_below (F := none') hB).frozen (p := ⟨b, j, none⟩) h.lt id).trans (h.fz j), Nat.lt_of_lt_of_le h.lt hB.size⟩
theorem FnAt.mod {F : Nat → Prop} {w w' : World} {b n : Nat} {f : Nat → Value} (h : FnAt w b n f) (hM : Mod F w w') (hb : ¬ F b) : FnAt w' b n f :=
  ⟨fun j hj => hM.at (h.at' j hj) hb, fun j => (hM.frozen (p := ⟨b, j, none⟩) h.lt hb).trans (h.fz j), Nat.lt_of_lt_of_le h.lt hM.size⟩
end Esch
/- a dump in new memory: law20.Copied -/
namespace Go.Proofs.YtmnkackkeppheaaGreat
open Go.RowKit Esch Go.Shelf

set_option linter.unusedSimpArgs false
set_option linter.unusedVariables false
theorem Tryz.infoIn2 : (Tryz.prog.info? 102).map (fun i => (i.zero, i.size, i.bytes)) = some (some (.agg #[.int .i64 0, .int .i64 0, .int .i64 0, .int .i64 0, .int .i64 0, .slice none 0 0]), 6, 64) := by kernel_rfl
theorem Tryz.infoPt2 : (Tryz.prog.info? 94).map (fun i => (i.zero, i.size, i.bytes)) = some (some (.agg #[.int .i64 0, .int .i64 0, .int .i64 0, .int .i64 0]), 4, 32) := by kernel_rfl
set_option maxRecDepth 100000 in
set_option maxHeartbeats 8000000 in
theorem inoCop_any (w : World) (S : Nat → Prop) (a : Option Addr) (c : Nat) (l : List InC) (h : InosAt w S a l) (hl : l.length ≤ 100000) :
    Calls Tryz.prog 45 #[.slice a l.length c] w (IOwnPost w l) := by
  obtain ⟨j0, hi, hy0, hy1, hy2⟩ := info_parts Tryz.infoIn2
  obtain ⟨p0, hp, hq0, hq1, hq2⟩ := info_parts Tryz.infoPt2
  have HE := Lib.hid h
  have Hll := Lib.hid hl
  clear h hl
  go_enter Tryz.func45, Tryz.ntmps45
  go_wp2_with fail
  go_loopg [3, 4] l.length (fun g s3 s4 wr => IOwnRel w l g s3 s4 wr)
  case atStart => exact ⟨0, none, 0, [], none', rfl, Nat.zero_le _, rfl, rfl, GRowAt.nil _ _ _ _, fun _ h => h.elim, by simp, rfl, Below.refl _ _⟩
  case round =>
    obtain ⟨i, ao, cap, kk, R, rfl, hil, rfl, rfl, hG, hR, hP, hV, hB'⟩ := hrel
    have HR := Lib.hid hR
    have HG := Lib.hid hG
    have HP := Lib.hid hP
    have HV := Lib.hid hV
    have HB' := Lib.hid hB'
    clear hG hR hP hV hB'
    by_cases hlt : i < l.length
    · obtain ⟨bk, off, rfl, hSb, hbl, hc⟩ := HE.out.row.elem InC.cells_len default hlt
      have hpu := HE.out.pts _ (getDmem l default hlt)
      have HT := Lib.hid (take_one l default hlt)
      have hlt' := Lib.hid hlt
      generalize l.getD i default = u at *
      obtain ⟨u0, u1, u2, u3, u4, pu, cu, lu⟩ := u
      have f0 : wr.cell? ⟨bk, off + i * 6, none⟩ = some (.int .i64 u0) := below_at HB'.out (hc 0 (by decide)) hbl
      have f1 : wr.cell? ⟨bk, off + i * 6 + 1, none⟩ = some (.int .i64 u1) := below_at HB'.out (hc 1 (by decide)) hbl
      have f2 : wr.cell? ⟨bk, off + i * 6 + 2, none⟩ = some (.int .i64 u2) := below_at HB'.out (hc 2 (by decide)) hbl
      have f3 : wr.cell? ⟨bk, off + i * 6 + 3, none⟩ = some (.int .i64 u3) := below_at HB'.out (hc 3 (by decide)) hbl
      have f4 : wr.cell? ⟨bk, off + i * 6 + 4, none⟩ = some (.int .i64 u4) := below_at HB'.out (hc 4 (by decide)) hbl
      have f5 : wr.cell? ⟨bk, off + i * 6 + 5, none⟩ = some (.slice pu lu.length cu) := below_at HB'.out (hc 5 (by decide)) hbl
      have hbl' : bk < wr.heap.size := cell_lt f0
      have hil2 : (0 : Int) ≤ i ∧ (i : Int) < l.length := by omega
      have hwr := Lib.hid (show wrap64 ((i : Int) + 1) = ((i + 1 : Nat) : Int) by unfold wrap64; have := Hll.out; omega)
      have hms := Lib.hid (show l.length - (i + 1) < l.length - i from Nat.sub_lt_sub_left hlt (Nat.lt_succ_self i))
      obtain ⟨W1, hW1⟩ : ∃ W1, W1 = (wr.alloc (.cells #[.int .i64 u0, .int .i64 u1, .int .i64 u2, .int .i64 u3, .int .i64 u4, .slice pu lu.length cu] 102)).alloc (.cells #[] 94) := ⟨_, rfl⟩
      have hB1 : Below wr.heap.size wr W1 := by rw [hW1]; exact belC (Below.refl _ _)
      have hz1 : W1.heap.size = wr.heap.size + 2 := by rw [hW1]; simp
      have e0 : W1.cell? ⟨wr.heap.size, 0, none⟩ = some (.int .i64 u0) := by rw [hW1]; go_simp
      have e1 : W1.cell? ⟨wr.heap.size, 1, none⟩ = some (.int .i64 u1) := by rw [hW1]; go_simp
      have e2 : W1.cell? ⟨wr.heap.size, 2, none⟩ = some (.int .i64 u2) := by rw [hW1]; go_simp
      have e3 : W1.cell? ⟨wr.heap.size, 3, none⟩ = some (.int .i64 u3) := by rw [hW1]; go_simp
      have e4 : W1.cell? ⟨wr.heap.size, 4, none⟩ = some (.int .i64 u4) := by rw [hW1]; go_simp
      have e5 : W1.cell? ⟨wr.heap.size, 5, none⟩ = some (.slice pu lu.length cu) := by rw [hW1]; go_simp
      have g5 : W1.frozen? ⟨wr.heap.size, 5, none⟩ = false := by rw [hW1]; go_simp
      have hwl := cell_lt e0
      have hpu1 := hpu.mod (F := none') (Mod.of_below (HB'.out.trans (hB1.mono HB'.out.size))) (fun _ _ _ => id)
      have HSP := Lib.hid (hpu1.row.src Tryz.underlying90 (ptC_one lu) cu (fun _ e => hpu1.nil e))
      have HPF : Hid (lu.length ≤ 100000) := Lib.hid hpu1.few
      have HB1 := Lib.hid hB1
      have HZ1 := Lib.hid hz1
      have HW1 := Lib.hid hW1
      rw [hW1] at HSP
      clear hc hbl hpu hpu1 hW1 hB1 hz1
      go_wp2_with (first
        | (at_builtin; refine wpList_append_g (by rfl) (.tmp 16) (.tmp 18) 90 90 (by rfl) 94 p0 _ 32 Tryz.underlying90 hp hq0 hq1 hq2 (by rfl) (by rfl) (GRowAt.nil _ none' 4 _) _ lu.length (lu.flatMap ptC) (by rfl) HSP.out (by have := HPF.out; omega) (by have := HPF.out; omega) ?_
           intro a4 cap4 w4 hg4 hM4 hz4
           simp only [Nat.zero_add, List.nil_append] at hg4
           rw [← HW1.out] at hg4 hM4 hz4
           have h0 := hM4.at e0 id
           have h1 := hM4.at e1 id
           have h2 := hM4.at e2 id
           have h3 := hM4.at e3 id
           have h4 := hM4.at e4 id
           have h5 := hM4.at e5 id
           have j5 : w4.frozen? ⟨wr.heap.size, 5, none⟩ = false := (hM4.frozen (p := ⟨wr.heap.size, 5, none⟩) hwl id).trans g5
           have HB4 : Hid (Below wr.heap.size wr w4) := Lib.hid (HB1.out.trans (hM4.below_at HB1.out.size (fun k hk e => e.elim)))
           have HZ4 : Hid (W1.heap.size ≤ w4.heap.size) := Lib.hid hM4.size
           have HC4 : Hid (lu.length ≤ cap4 ∧ cap4 ≤ 9223372036854775807) := Lib.hid ⟨hg4.le, hg4.max⟩
           have HN4 : Hid (a4 = none → cap4 = 0) := Lib.hid (fun e => rowNil9 hg4 e)
           have HR4 := Lib.hid hg4.row
           have hwl4 : wr.heap.size < w4.heap.size := cell_lt h0
           clear hg4 hM4 hz4 e0 e1 e2 e3 e4 e5 g5 hwl HSP
           obtain ⟨W7, hW7⟩ : ∃ W7, W7 = (w4.setCell ⟨wr.heap.size, 5, none⟩ (.slice a4 lu.length cap4)).alloc (.cells (InC.cells ⟨u0, u1, u2, u3, u4, a4, cap4, lu⟩).toArray 102) := ⟨_, rfl⟩
           have hB7 : Below wr.heap.size wr W7 := by rw [hW7]; exact belC HB4.out
           have hM7 : Mod (· = wr.heap.size) w4 W7 := by rw [hW7]; exact modC (Mod.refl _ _)
           have hz7 : W7.heap.size = w4.heap.size + 1 := by rw [hW7]; simp
           have hsrc : W7.heap[w4.heap.size]? = some (.cells (InC.cells ⟨u0, u1, u2, u3, u4, a4, cap4, lu⟩).toArray 102) := by
             rw [hW7, show w4.heap.size = (w4.setCell ⟨wr.heap.size, 5, none⟩ (.slice a4 lu.length cap4)).heap.size by simp]
             exact heap_alloc_new _ _
           have hG7 := HG.out.mod (F := none') (Mod.of_below hB7) (fun _ _ _ => id)
           have HB7 := Lib.hid hB7
           have HM7 := Lib.hid hM7
           have HZ7 := Lib.hid hz7
           rw [hW7] at hG7 hsrc
           have HG7 := Lib.hid hG7
           have HSRC := Lib.hid hsrc
           have HW7 := Lib.hid hW7
           clear hB7 hM7 hz7 hW7 hG7 hsrc)
        | (at_builtin; refine wpList_append_g (by rfl) (.tmp 21) (.tmp 23) 23 23 (by rfl) 102 j0 _ 64 Tryz.underlying23 hi hy0 hy1 hy2 (by rfl) (by rfl) HG7.out _ 1 (InC.cells ⟨u0, u1, u2, u3, u4, a4, cap4, lu⟩) (by rfl) (src_inc _ _ Tryz.underlying23 _ _ 102 HSRC.out _) (by have := Hll.out; omega) (by have := Hll.out; omega) ?_
           intro a6 cap6 w6 hg6 hM6 hz6
           rw [show (w4.setCell ⟨wr.heap.size, 5, none⟩ (.slice a4 lu.length cap4)).alloc (.cells #[.int .i64 u0, .int .i64 u1, .int .i64 u2, .int .i64 u3, .int .i64 u4, .slice a4 lu.length cap4] 102) = W7 from HW7.out.symm] at hg6 hM6 hz6
           have hB6 : Below w.heap.size w w6 := (HB'.out.trans (HB7.out.mono HB'.out.size)).trans (hM6.below_at (Nat.le_trans HB'.out.size HB7.out.size) (fun k hk e => by have := (HR.out k e).1; omega))
           have HNEW : Hid (∃ R' : Nat → Prop, GRowAt w6 R' 6 (i + 1) cap6 a6 ((kk ++ [(⟨u0, u1, u2, u3, u4, a4, cap4, lu⟩ : InC)]).flatMap InC.cells) ∧ (∀ b, R' b → w.heap.size ≤ b ∧ b < w6.heap.size) ∧ (∀ x ∈ kk ++ [(⟨u0, u1, u2, u3, u4, a4, cap4, lu⟩ : InC)], PcOk w6 (fun b => w.heap.size ≤ b ∧ ¬ R' b) x)) := Lib.hid (by
             have z7 := HZ7.out
             have z1 := HZ1.out
             have z4 := HZ4.out
             have z6 := hM6.size
             have zB := HB'.out.size
             refine ⟨fun k => R k ∨ (k = W7.heap.size ∧ k < w6.heap.size), ?_, fun b hb => ?_, fun x hx => ?_⟩
             · rw [List.flatMap_append, show ([⟨u0, u1, u2, u3, u4, a4, cap4, lu⟩] : List InC).flatMap InC.cells = InC.cells ⟨u0, u1, u2, u3, u4, a4, cap4, lu⟩ from List.append_nil _]
               exact hg6.sub (fun k hk h => h.imp id (fun e => ⟨e, hk⟩))
             · rcases hb with hb | hb
               · have := HR.out b hb; omega
               · omega
             · rcases List.mem_append.1 hx with hx | hx
               · have h1 := (HP.out x hx).sub (T := fun b => (w.heap.size ≤ b ∧ ¬ R b) ∧ b < wr.heap.size) (fun b hb hb2 => ⟨hb2, hb⟩)
                 have h2 := (h1.below' HB7.out).mod hM6 (fun k hk _ hR => hk.1.2 hR)
                 exact h2.sub (fun b _ hb => ⟨hb.1.1, fun e => e.elim hb.1.2 (fun e => by omega)⟩)
               · rw [List.mem_singleton] at hx
                 subst hx
                 refine ⟨?_, fun e => HN4.out e, HC4.out, HPF.out⟩
                 have h3 := ((HR4.out.sub (T := fun k => k = W1.heap.size) (fun k _ h => h.elim (fun e => e.elim) id)).mod HM7.out (fun k hk _ e => by have e : k = wr.heap.size := e; omega)).mod hM6 (fun k hk _ hR => by have := (HR.out k hR).2; omega)
                 exact h3.sub (fun b _ hb => ⟨by omega, fun e => e.elim (fun hR => by have := (HR.out b hR).2; omega) (fun e => by omega)⟩))
           have HB6 := Lib.hid hB6
           clear hg6 hM6 hz6 hB6 h0 h1 h2 h3 h4 h5 j5 hwl4))
      go_roundg (l.length - (i + 1))
      case measure => exact hms.out
      case rel =>
        obtain ⟨R', n1, n2, n3⟩ := HNEW.out
        exact ⟨i + 1, a6, cap6, _, R', rfl, hlt'.out, by first | rfl | rw [hwr.out], rfl, n1, n2, n3, by rw [HT.out, List.map_append, List.map_append, HV.out]; rfl, HB6.out⟩
    · obtain rfl : i = l.length := by omega
      have hg := HG.out
      have hv := HV.out
      rw [List.take_length] at hv
      have hkl : kk.length = l.length := by simpa using congrArg List.length hv
      rw [← hkl] at hg
      go_wp2_with fail
      go_ret
      exact ⟨ao, cap, kk, by rw [hkl]; rfl, ⟨hg.row.sub (fun b _ hb => (HR.out b hb).1), fun x hx => (HP.out x hx).sub (fun b _ hb => hb.1)⟩, hv, HB'.out⟩
end Go.Proofs.YtmnkackkeppheaaGreat
/- a dump in new memory: law25.Copied -/
namespace Esch
open Go Go.RowKit
theorem DmC.one (x : DmC) : x.cells.toArray.all (·.oneCell') = true := by simp [DmC.cells, Value.oneCell']
theorem FnAt.range {w : World} {b n : Nat} {f : Nat → Value} (h : FnAt w b n f) : w.rangeAt b 0 ((List.range n).map f) := fun j v hv => by
  have hj : j < n := by simpa using (List.getElem?_eq_some_iff.1 hv).1
  rw [Nat.zero_add, h.at' j hj]
  simpa [hj] using hv
theorem FnAt.there {w : World} {b n : Nat} {f : Nat → Value} (h : FnAt w b n f) : w.there b 0 n := fun j hj => ⟨by rw [Nat.zero_add, h.at' j hj]; rfl, h.fz _⟩
end Esch
namespace Go.Proofs.YtmnkackkeppheaaGreat
open Go.RowKit Esch Go.Shelf

set_option linter.unusedSimpArgs false
set_option linter.unusedVariables false
theorem Tryz.infoEn2 : (Tryz.prog.info? 106).map (fun i => (i.zero, i.size, i.bytes)) = some (some (.agg #[.int .i64 0, .string ⟨#[]⟩, .int .i64 0]), 3, 32) := by kernel_rfl
theorem Tryz.infoHd2 : (Tryz.prog.info? 108).map (fun i => (i.zero, i.size, i.bytes)) = some (some (.agg #[.int .i64 0, .int .i64 0, .int .i64 0]), 3, 24) := by kernel_rfl
theorem cp_results (w : World) (rb : Nat) (cs : List Value) (tmps : Array Value) (h : tmps.getD 2 undef = .pointer (some ⟨rb, 0, none⟩)) (hc : w.rangeAt rb 0 cs) (hl : cs.length = 37) : (results Tryz.f13 tmps).run Tryz.prog w = .ok (.agg cs.toArray) w := by
  have h2 := run_loadVar_mid (P := Tryz.prog) w rb 0 32 cs _ hc Tryz.underlying32 rfl (by rw [hl]; kernel_rfl)
  have h3 : tmps[2]?.getD undef = .pointer (some ⟨rb, 0, none⟩) := by simpa using h
  unfold results
  rw [Tryz.results13]
  simp [h3, asAddr, h2]
/-- a dump like x, in memory from B on -/
def CopPost (w : World) (x : DmC) (e : Ending) (w' : World) : Prop := ∃ y : DmC, e = .returned (.agg y.cells.toArray) ∧ DmOk w' (fun _ => True) y ∧ x.same y = true ∧ Below w.heap.size w w'
set_option maxRecDepth 100000 in
set_option maxHeartbeats 16000000 in
theorem cop25_any (w : World) (S : Nat → Prop) (x : DmC) (hx : DmOk w S x) (hn : x.na = none → x.nc = 0) (hh : x.ha = none → x.hc = 0) : Calls Tryz.prog 13 #[.agg x.cells.toArray] w (CopPost w x) := by
  obtain ⟨j0, hi, hy0, hy1, hy2⟩ := info_parts Tryz.infoEn2
  obtain ⟨p0, hp, hq0, hq1, hq2⟩ := info_parts Tryz.infoHd2
  obtain ⟨xn, xia, xic, xik, xm, xna, xnc, xnl, xha, xhc, xhl, xl, xs, xr⟩ := x
  simp only at hn hh
  obtain ⟨W1, hW1⟩ : ∃ W1, W1 = (w.alloc (.cells (.int .i64 xn :: .slice xia xik.length xic :: .int .i64 xm :: .slice xna xnl.length xnc :: .slice xha xhl.length xhc :: .int .i64 (xl 0) :: .int .i64 (xl 1) :: .int .i64 (xl 2) :: .int .i64 (xl 3) :: .int .i64 (xl 4) :: .int .i64 (xl 5) :: .int .i64 (xl 6) :: .int .i64 (xl 7) :: .int .i64 (xs 0) :: .int .i64 (xs 1) :: .int .i64 (xs 2) :: .int .i64 (xs 3) :: .int .i64 (xs 4) :: .int .i64 (xs 5) :: .int .i64 (xs 6) :: .int .i64 (xs 7) :: .int .i64 (xr 0) :: .int .i64 (xr 1) :: .int .i64 (xr 2) :: .int .i64 (xr 3) :: .int .i64 (xr 4) :: .int .i64 (xr 5) :: .int .i64 (xr 6) :: .int .i64 (xr 7) :: .int .i64 (xr 8) :: .int .i64 (xr 9) :: .int .i64 (xr 10) :: .int .i64 (xr 11) :: .int .i64 (xr 12) :: .int .i64 (xr 13) :: .int .i64 (xr 14) :: .int .i64 (xr 15) :: [] : List Value).toArray 32)).alloc (.cells (.int .i64 0 :: .slice none 0 0 :: .int .i64 0 :: .slice none 0 0 :: .slice none 0 0 :: .int .i64 0 :: .int .i64 0 :: .int .i64 0 :: .int .i64 0 :: .int .i64 0 :: .int .i64 0 :: .int .i64 0 :: .int .i64 0 :: .int .i64 0 :: .int .i64 0 :: .int .i64 0 :: .int .i64 0 :: .int .i64 0 :: .int .i64 0 :: .int .i64 0 :: .int .i64 0 :: .int .i64 0 :: .int .i64 0 :: .int .i64 0 :: .int .i64 0 :: .int .i64 0 :: .int .i64 0 :: .int .i64 0 :: .int .i64 0 :: .int .i64 0 :: .int .i64 0 :: .int .i64 0 :: .int .i64 0 :: .int .i64 0 :: .int .i64 0 :: .int .i64 0 :: .int .i64 0 :: [] : List Value).toArray 32) := ⟨_, rfl⟩
  have hB1 : Below w.heap.size w W1 := by rw [hW1]; exact belC (Below.refl _ _)
  have hz1 : W1.heap.size = w.heap.size + 2 := by rw [hW1]; simp
  have hfx : FnAt W1 w.heap.size 37 (fun j => ((.int .i64 xn :: .slice xia xik.length xic :: .int .i64 xm :: .slice xna xnl.length xnc :: .slice xha xhl.length xhc :: .int .i64 (xl 0) :: .int .i64 (xl 1) :: .int .i64 (xl 2) :: .int .i64 (xl 3) :: .int .i64 (xl 4) :: .int .i64 (xl 5) :: .int .i64 (xl 6) :: .int .i64 (xl 7) :: .int .i64 (xs 0) :: .int .i64 (xs 1) :: .int .i64 (xs 2) :: .int .i64 (xs 3) :: .int .i64 (xs 4) :: .int .i64 (xs 5) :: .int .i64 (xs 6) :: .int .i64 (xs 7) :: .int .i64 (xr 0) :: .int .i64 (xr 1) :: .int .i64 (xr 2) :: .int .i64 (xr 3) :: .int .i64 (xr 4) :: .int .i64 (xr 5) :: .int .i64 (xr 6) :: .int .i64 (xr 7) :: .int .i64 (xr 8) :: .int .i64 (xr 9) :: .int .i64 (xr 10) :: .int .i64 (xr 11) :: .int .i64 (xr 12) :: .int .i64 (xr 13) :: .int .i64 (xr 14) :: .int .i64 (xr 15) :: [] : List Value)[j]?).getD undef) := by rw [hW1]; exact (FnAt.new w 32 (.int .i64 xn :: .slice xia xik.length xic :: .int .i64 xm :: .slice xna xnl.length xnc :: .slice xha xhl.length xhc :: .int .i64 (xl 0) :: .int .i64 (xl 1) :: .int .i64 (xl 2) :: .int .i64 (xl 3) :: .int .i64 (xl 4) :: .int .i64 (xl 5) :: .int .i64 (xl 6) :: .int .i64 (xl 7) :: .int .i64 (xs 0) :: .int .i64 (xs 1) :: .int .i64 (xs 2) :: .int .i64 (xs 3) :: .int .i64 (xs 4) :: .int .i64 (xs 5) :: .int .i64 (xs 6) :: .int .i64 (xs 7) :: .int .i64 (xr 0) :: .int .i64 (xr 1) :: .int .i64 (xr 2) :: .int .i64 (xr 3) :: .int .i64 (xr 4) :: .int .i64 (xr 5) :: .int .i64 (xr 6) :: .int .i64 (xr 7) :: .int .i64 (xr 8) :: .int .i64 (xr 9) :: .int .i64 (xr 10) :: .int .i64 (xr 11) :: .int .i64 (xr 12) :: .int .i64 (xr 13) :: .int .i64 (xr 14) :: .int .i64 (xr 15) :: [] : List Value) 37 rfl).below (by exact belC (Below.refl _ _))
  have hfr := FnAt.new (w.alloc (.cells (.int .i64 xn :: .slice xia xik.length xic :: .int .i64 xm :: .slice xna xnl.length xnc :: .slice xha xhl.length xhc :: .int .i64 (xl 0) :: .int .i64 (xl 1) :: .int .i64 (xl 2) :: .int .i64 (xl 3) :: .int .i64 (xl 4) :: .int .i64 (xl 5) :: .int .i64 (xl 6) :: .int .i64 (xl 7) :: .int .i64 (xs 0) :: .int .i64 (xs 1) :: .int .i64 (xs 2) :: .int .i64 (xs 3) :: .int .i64 (xs 4) :: .int .i64 (xs 5) :: .int .i64 (xs 6) :: .int .i64 (xs 7) :: .int .i64 (xr 0) :: .int .i64 (xr 1) :: .int .i64 (xr 2) :: .int .i64 (xr 3) :: .int .i64 (xr 4) :: .int .i64 (xr 5) :: .int .i64 (xr 6) :: .int .i64 (xr 7) :: .int .i64 (xr 8) :: .int .i64 (xr 9) :: .int .i64 (xr 10) :: .int .i64 (xr 11) :: .int .i64 (xr 12) :: .int .i64 (xr 13) :: .int .i64 (xr 14) :: .int .i64 (xr 15) :: [] : List Value).toArray 32)) 32 (.int .i64 0 :: .slice none 0 0 :: .int .i64 0 :: .slice none 0 0 :: .slice none 0 0 :: .int .i64 0 :: .int .i64 0 :: .int .i64 0 :: .int .i64 0 :: .int .i64 0 :: .int .i64 0 :: .int .i64 0 :: .int .i64 0 :: .int .i64 0 :: .int .i64 0 :: .int .i64 0 :: .int .i64 0 :: .int .i64 0 :: .int .i64 0 :: .int .i64 0 :: .int .i64 0 :: .int .i64 0 :: .int .i64 0 :: .int .i64 0 :: .int .i64 0 :: .int .i64 0 :: .int .i64 0 :: .int .i64 0 :: .int .i64 0 :: .int .i64 0 :: .int .i64 0 :: .int .i64 0 :: .int .i64 0 :: .int .i64 0 :: .int .i64 0 :: .int .i64 0 :: .int .i64 0 :: [] : List Value) 37 rfl
  rw [← hW1, show (w.alloc (.cells (.int .i64 xn :: .slice xia xik.length xic :: .int .i64 xm :: .slice xna xnl.length xnc :: .slice xha xhl.length xhc :: .int .i64 (xl 0) :: .int .i64 (xl 1) :: .int .i64 (xl 2) :: .int .i64 (xl 3) :: .int .i64 (xl 4) :: .int .i64 (xl 5) :: .int .i64 (xl 6) :: .int .i64 (xl 7) :: .int .i64 (xs 0) :: .int .i64 (xs 1) :: .int .i64 (xs 2) :: .int .i64 (xs 3) :: .int .i64 (xs 4) :: .int .i64 (xs 5) :: .int .i64 (xs 6) :: .int .i64 (xs 7) :: .int .i64 (xr 0) :: .int .i64 (xr 1) :: .int .i64 (xr 2) :: .int .i64 (xr 3) :: .int .i64 (xr 4) :: .int .i64 (xr 5) :: .int .i64 (xr 6) :: .int .i64 (xr 7) :: .int .i64 (xr 8) :: .int .i64 (xr 9) :: .int .i64 (xr 10) :: .int .i64 (xr 11) :: .int .i64 (xr 12) :: .int .i64 (xr 13) :: .int .i64 (xr 14) :: .int .i64 (xr 15) :: [] : List Value).toArray 32)).heap.size = w.heap.size + 1 by simp] at hfr
  have HFX := Lib.hid hfx
  have HFR := Lib.hid hfr
  have HB1 := Lib.hid hB1
  have HZ1 := Lib.hid hz1
  have HX := Lib.hid hx
  have HN := Lib.hid hn
  have HH := Lib.hid hh
  have HW1 := Lib.hid hW1
  have hcp := inoCop_any W1 S xia xic xik (hx.ino.below' hB1) hx.i1
  have c1 : W1.cell? ⟨w.heap.size, 1, none⟩ = some (.slice xia xik.length xic) := hfx.at' 1 (by decide)
  simp only [DmC.cells]
  clear hx hn hh hfx hfr hW1 hB1 hz1
  go_enter Tryz.func13, Tryz.ntmps13
  go_wp2_with fail
  rw [← HW1.out]
  refine hcp.mono ?_
  clear hcp HW1
  rintro e w2 ⟨ia, ic, ik, rfl, hI, hIV, hB2⟩
  have HIA := Lib.hid hI
  have HIV := Lib.hid hIV
  have HFX := Lib.hid (HFX.out.below hB2)
  have HFR := Lib.hid (HFR.out.below hB2)
  have HB2 := Lib.hid (HB1.out.trans (hB2.mono HB1.out.size))
  have HZ2 := Lib.hid hB2.size
  clear hI hIV hB2 c1
  have c1 : w2.cell? ⟨w.heap.size, 1, none⟩ = some (.slice xia xik.length xic) := HFX.out.at' 1 (by decide)
  have c3 : w2.cell? ⟨w.heap.size, 3, none⟩ = some (.slice xna xnl.length xnc) := HFX.out.at' 3 (by decide)
  have fz := HFX.out.fz
  have hol := HFX.out.lt
  obtain ⟨Wa, hWa⟩ : ∃ Wa, Wa = (w2.setCell ⟨w.heap.size, 1, none⟩ (.slice ia ik.length ic)).alloc (.cells #[] 106) := ⟨_, rfl⟩
  have hBa : Below w.heap.size w Wa := by rw [hWa]; exact belC HB2.out
  have hMa : Mod (· = w.heap.size) w2 Wa := by rw [hWa]; exact modC (Mod.refl _ _)
  have hfa : FnAt Wa w.heap.size 37 (upd (fun j => ((.int .i64 xn :: .slice xia xik.length xic :: .int .i64 xm :: .slice xna xnl.length xnc :: .slice xha xhl.length xhc :: .int .i64 (xl 0) :: .int .i64 (xl 1) :: .int .i64 (xl 2) :: .int .i64 (xl 3) :: .int .i64 (xl 4) :: .int .i64 (xl 5) :: .int .i64 (xl 6) :: .int .i64 (xl 7) :: .int .i64 (xs 0) :: .int .i64 (xs 1) :: .int .i64 (xs 2) :: .int .i64 (xs 3) :: .int .i64 (xs 4) :: .int .i64 (xs 5) :: .int .i64 (xs 6) :: .int .i64 (xs 7) :: .int .i64 (xr 0) :: .int .i64 (xr 1) :: .int .i64 (xr 2) :: .int .i64 (xr 3) :: .int .i64 (xr 4) :: .int .i64 (xr 5) :: .int .i64 (xr 6) :: .int .i64 (xr 7) :: .int .i64 (xr 8) :: .int .i64 (xr 9) :: .int .i64 (xr 10) :: .int .i64 (xr 11) :: .int .i64 (xr 12) :: .int .i64 (xr 13) :: .int .i64 (xr 14) :: .int .i64 (xr 15) :: [] : List Value)[j]?).getD undef) 1 (.slice ia ik.length ic)) := by rw [hWa]; exact (HFX.out.set (k := 1) (by decide) _).below (by exact belC (Below.refl _ _))
  have hsn := (HX.out.nam.below' hBa).src Tryz.underlying24 (fun u hu => by obtain ⟨p, -, hp⟩ := List.mem_flatMap.1 hu; exact enC_one p u hp) xnc (fun _ e => HN.out e)
  have HBa := Lib.hid hBa
  have HMa := Lib.hid hMa
  have HFa := Lib.hid hfa
  have HWa := Lib.hid hWa
  have HNL := Lib.hid HX.out.n1
  have HHL := Lib.hid HX.out.h1
  have HZa : Hid (w2.heap.size < Wa.heap.size) := Lib.hid (by rw [hWa]; simp)
  rw [hWa] at hsn
  have HSN := Lib.hid hsn
  clear hBa hMa hfa hWa hsn
  go_wp2_with (first
    | (at_builtin; refine wpList_append_g (by rfl) (.tmp 7) (.tmp 9) 24 24 (by rfl) 106 j0 _ 32 Tryz.underlying24 hi hy0 hy1 hy2 (by rfl) (by rfl) (GRowAt.nil _ none' 3 _) _ xnl.length (xnl.flatMap enC) (by rfl) HSN.out (by have := HNL.out; omega) (by have := HNL.out; omega) ?_
       intro a4 cap4 w4 hg4 hM4 hz4
       simp only [Nat.zero_add, List.nil_append] at hg4
       rw [← HWa.out] at hg4 hM4 hz4
       have hf4 := HFa.out.mod hM4 id
       have c3 : w4.cell? ⟨w.heap.size, 3, none⟩ = some (.slice xna xnl.length xnc) := hf4.at' 3 (by decide)
       have c4 : w4.cell? ⟨w.heap.size, 4, none⟩ = some (.slice xha xhl.length xhc) := hf4.at' 4 (by decide)
       have fz := hf4.fz
       have hol := hf4.lt
       have hB4 : Below w.heap.size w w4 := HBa.out.trans (hM4.below_at HBa.out.size (fun k hk e => e.elim))
       have HM4 : Hid (Mod (· = w.heap.size) w2 w4) := Lib.hid (HMa.out.trans' hM4 (fun _ _ e => e.elim))
       have HZ4 : Hid (Wa.heap.size ≤ w4.heap.size) := Lib.hid hM4.size
       have HR4 := Lib.hid (hg4.row.sub (T := fun k => k = Wa.heap.size) (fun k _ h => h.elim (fun e => e.elim) id))
       have HC4 : Hid (xnl.length ≤ cap4 ∧ cap4 ≤ 9223372036854775807) := Lib.hid ⟨hg4.le, hg4.max⟩
       have HN4 : Hid (a4 = none → cap4 = 0) := Lib.hid (fun e => rowNil9 hg4 e)
       obtain ⟨Wb, hWb⟩ : ∃ Wb, Wb = (w4.setCell ⟨w.heap.size, 3, none⟩ (.slice a4 xnl.length cap4)).alloc (.cells #[] 108) := ⟨_, rfl⟩
       have hBb : Below w.heap.size w Wb := by rw [hWb]; exact belC hB4
       have hMb : Mod (· = w.heap.size) w4 Wb := by rw [hWb]; exact modC (Mod.refl _ _)
       have hfb := (hf4.set (k := 3) (by decide) (.slice a4 xnl.length cap4)).below (w' := Wb) (by rw [hWb]; exact belC (Below.refl _ _))
       have hsh := (HX.out.hdl.below' hBb).src Tryz.underlying25 (fun u hu => by obtain ⟨p, -, hp⟩ := List.mem_flatMap.1 hu; exact hdC_one p u hp) xhc (fun _ e => HH.out e)
       have HBb := Lib.hid hBb
       have HMb : Hid (Mod (· = w.heap.size) w2 Wb) := Lib.hid (HM4.out.trans hMb)
       have HMb4 := Lib.hid hMb
       have HFb := Lib.hid hfb
       have HZb : Hid (w4.heap.size < Wb.heap.size) := Lib.hid (by rw [hWb]; simp)
       have HWb := Lib.hid hWb
       rw [hWb] at hsh
       have HSH := Lib.hid hsh
       clear hg4 hM4 hz4 hf4 hB4 hBb hMb hfb hWb hsh c1)
    | (at_builtin; refine wpList_append_g (by rfl) (.tmp 12) (.tmp 14) 25 25 (by rfl) 108 p0 _ 24 Tryz.underlying25 hp hq0 hq1 hq2 (by rfl) (by rfl) (GRowAt.nil _ none' 3 _) _ xhl.length (xhl.flatMap hdC) (by rfl) HSH.out (by have := HHL.out; omega) (by have := HHL.out; omega) ?_
       intro a6 cap6 w6 hg6 hM6 hz6
       simp only [Nat.zero_add, List.nil_append] at hg6
       rw [← HWb.out] at hg6 hM6 hz6
       have hf6 := HFb.out.mod hM6 id
       have c4 : w6.cell? ⟨w.heap.size, 4, none⟩ = some (.slice xha xhl.length xhc) := hf6.at' 4 (by decide)
       have fz := hf6.fz
       have hol := hf6.lt
       have hB6 : Below w.heap.size w w6 := HBb.out.trans (hM6.below_at HBb.out.size (fun k hk e => e.elim))
       obtain ⟨W7, hW7⟩ : ∃ W7, W7 = w6.setCell ⟨w.heap.size, 4, none⟩ (.slice a6 xhl.length cap6) := ⟨_, rfl⟩
       have hM7 : Mod (· = w.heap.size) w6 W7 := by rw [hW7]; exact (Mod.refl (· = w.heap.size) w6).setCellAt (b := w.heap.size) (fun _ => rfl) _
       have hf7 := hf6.set (k := 4) (by decide) (.slice a6 xhl.length cap6)
       rw [← hW7] at hf7
       have HB7 : Hid (Below w.heap.size w W7) := Lib.hid (hB6.trans (hM7.below_at hB6.size (fun k hk e => by have e : k = w.heap.size := e; omega)))
       have HM7 : Hid (Mod (· = w.heap.size) w2 W7) := Lib.hid ((HMb.out.trans' hM6 (fun _ _ e => e.elim)).trans hM7)
       have HM47 : Hid (Mod (· = w.heap.size) w4 W7) := Lib.hid ((HMb4.out.trans' hM6 (fun _ _ e => e.elim)).trans hM7)
       have HM67 := Lib.hid hM7
       have HZ6 : Hid (Wb.heap.size ≤ w6.heap.size) := Lib.hid hM6.size
       have HR6 := Lib.hid (hg6.row.sub (T := fun k => k = Wb.heap.size) (fun k _ h => h.elim (fun e => e.elim) id))
       have HC6 : Hid (xhl.length ≤ cap6 ∧ cap6 ≤ 9223372036854775807) := Lib.hid ⟨hg6.le, hg6.max⟩
       have hrg : W7.rangeAt w.heap.size 0 (DmC.cells ⟨xn, ia, ic, ik, xm, a4, cap4, xnl, a6, cap6, xhl, xl, xs, xr⟩) := hf7.range
       have HRG := Lib.hid hrg
       have HFR := Lib.hid (HFR.out.mod HM7.out (by show ¬ w.heap.size + 1 = w.heap.size; omega))
       have HTH : Hid (W7.there (w.heap.size + 1) 0 37) := Lib.hid HFR.out.there
       have HW7 := Lib.hid hW7
       have hone : (DmC.cells ⟨xn, ia, ic, ik, xm, a4, cap4, xnl, a6, cap6, xhl, xl, xs, xr⟩).toArray.all (·.oneCell') = true := DmC.one _
       have HON := Lib.hid hone
       clear hg6 hM6 hz6 hf6 hB6 hM7 hf7 hW7 hrg hone c3)
    | (refine wpList_load_mid (by rfl) 32 _ (by rfl) w.heap.size 0 (by rfl) (DmC.cells ⟨xn, ia, ic, ik, xm, a4, cap4, xnl, a6, cap6, xhl, xl, xs, xr⟩) _ (by rw [← HW7.out]; exact HRG.out) Tryz.underlying32 rfl (by kernel_rfl) ?_; rw [← HW7.out])
    | (refine wpList_store_mid (by rfl) 32 _ _ (by rfl) (w.heap.size + 1) 0 (DmC.cells ⟨xn, ia, ic, ik, xm, a4, cap4, xnl, a6, cap6, xhl, xl, xs, xr⟩).toArray (by rfl) (by rfl) HTH.out (by kernel_rfl) HON.out ?_))
  refine bodyPost_ret (cp_results _ (w.heap.size + 1) (DmC.cells ⟨xn, ia, ic, ik, xm, a4, cap4, xnl, a6, cap6, xhl, xl, xs, xr⟩) _ (by rfl) (World.rangeAt_setCells_same _ _ _ _ HTH.out) rfl) rfl ?_
  have hM8 : Mod (· = w.heap.size + 1) W7 (W7.setCells (w.heap.size + 1) 0 (DmC.cells ⟨xn, ia, ic, ik, xm, a4, cap4, xnl, a6, cap6, xhl, xl, xs, xr⟩)) := Mod.setCellsAt (F := (· = w.heap.size + 1)) (show (· = w.heap.size + 1) (w.heap.size + 1) from rfl) _ _ _ (Mod.refl _ _)
  have z1 := HZ1.out
  have z2 := HZ2.out
  have za := HZa.out
  have z4 := HZ4.out
  have zb := HZb.out
  have hlen : ik.length = xik.length := by have := congrArg List.length HIV.out; simpa using this
  refine ⟨⟨xn, ia, ic, ik, xm, a4, cap4, xnl, a6, cap6, xhl, xl, xs, xr⟩, rfl, ⟨?_, ?_, ?_, by show ik.length ≤ 100000; have := HX.out.i1; simp only at this; omega, HX.out.n1, HX.out.h1⟩, by simp [DmC.same, HIV.out], HB7.out.trans (hM8.below_at (B := w.heap.size) HB7.out.size (fun k hk e => by have e : k = w.heap.size + 1 := e; omega))⟩
  · exact ((HIA.out.mod HM7.out (fun k hk _ e => by have e : k = w.heap.size := e; have hk : W1.heap.size ≤ k := hk; omega)).mod hM8 (fun k hk _ e => by have e : k = w.heap.size + 1 := e; have hk : W1.heap.size ≤ k := hk; omega)).sub (fun _ _ _ => trivial)
  · exact ((HR4.out.mod HM47.out (fun k hk _ e => by have e : k = w.heap.size := e; have hk : k = Wa.heap.size := hk; omega)).mod hM8 (fun k hk _ e => by have e : k = w.heap.size + 1 := e; have hk : k = Wa.heap.size := hk; omega)).sub (fun _ _ _ => trivial)
  · exact ((HR6.out.mod HM67.out (fun k hk _ e => by have e : k = w.heap.size := e; have hk : k = Wb.heap.size := hk; omega)).mod hM8 (fun k hk _ e => by have e : k = w.heap.size + 1 := e; have hk : k = Wb.heap.size := hk; omega)).sub (fun _ _ _ => trivial)
end Go.Proofs.YtmnkackkeppheaaGreat
