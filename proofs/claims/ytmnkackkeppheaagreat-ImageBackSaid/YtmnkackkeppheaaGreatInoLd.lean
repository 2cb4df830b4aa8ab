/- inode.Table.Load of the root alone -/
import Derived.Test.YtmnkackkeppheaaGreatInoDmp
import Derived.Test.YtmnkackkeppheaaGreatRKnown
namespace Esch
open Go Go.RowKit
def rootS : InS := ⟨1, 1, 1, 0, 0, []⟩
def tab0 : TabS := ⟨[(1, rootS)], 2⟩
end Esch
namespace Go.Proofs.YtmnkackkeppheaaGreat
open Go.RowKit Esch Go.Shelf

set_option linter.unusedSimpArgs false
set_option linter.unusedVariables false
set_option maxRecDepth 100000 in
set_option maxHeartbeats 1000000 in
theorem inoGood_root (w : World) (pa : Option Addr) (pc : Nat) : Calls Tryz.prog 121 #[.agg #[.int .i64 1, .int .i64 1, .int .i64 1, .int .i64 0, .int .i64 0, .slice pa (0 : Nat) pc]] w fun e w' => e = .returned (.bool true) ∧ Below w.heap.size w w' := by
  go_enter Tryz.func121, Tryz.ntmps121
  go_wp2_with fail
  go_ret
  exact ⟨rfl, by exact belC (Below.refl _ _)⟩
def LdRel (w : World) (mb : Nat) (g : Nat) (v : Value) (wr : World) : Prop :=
  ∃ (i : Nat) (m : List (Int × InC)), g = 1 - i ∧ i ≤ 1 ∧ v = .int .i64 i ∧ MpAt wr mb iV inCV m ∧ (i = 0 → m = []) ∧ (i = 1 → ∃ c : InC, m = [(1, c)] ∧ c.val = rootS ∧ PcOk wr (fun k => w.heap.size ≤ k ∧ k ≠ mb) c) ∧ Below w.heap.size w wr
set_option maxRecDepth 100000 in
set_option maxHeartbeats 4000000 in
theorem inoLoad_root (w : World) (b : Nat) (S : Nat → Prop) (s : TabS) (h : TabAt w b S s) (T : Nat → Prop) (ia : Option Addr) (ic : Nat) (x : InC) (hx : InosAt w T ia [x]) (hv : x.val = rootS) :
    Calls Tryz.prog 90 #[.pointer (some ⟨b, 0, none⟩), .slice ia (1 : Nat) ic, .int .i64 2] w fun e w' => e = .returned (.int .i64 0) ∧ TabAt w' b (growI S w w') tab0 ∧ Mod (· = b) w w' := by
  have hmm := @run_makeMap Tryz.prog
  obtain ⟨sb, lt, mb, m, c0, c1, f1, hm, sm, n1, hmv, hp⟩ := h
  have hbl := cell_lt c0
  have F1 := Lib.hid f1
  have f0 := F1.out 0
  have f1 := F1.out 1
  obtain ⟨xb, xo, hxa, -, hxl, hxc⟩ := hx.row.elem InC.cells_len default (show 0 < [x].length from Nat.one_pos)
  subst hxa
  have hpt := hx.pts x (by simp)
  have h00 := hxc 0 (by decide)
  have h01 := hxc 1 (by decide)
  have h02 := hxc 2 (by decide)
  have h03 := hxc 3 (by decide)
  have h04 := hxc 4 (by decide)
  have h05 := hxc 5 (by decide)
  obtain ⟨x0, x1, x2, x3, x4, pa, pc, lp⟩ := x
  simp only [InC.val, rootS, InS.mk.injEq] at hv
  obtain ⟨rfl, rfl, rfl, rfl, rfl, rfl⟩ := hv
  simp only [List.getD_cons_zero, InC.cells, List.getElem?_cons_zero, List.getElem?_cons_succ, Nat.zero_mul, Nat.add_zero, List.length_nil] at h00 h01 h02 h03 h04 h05
  clear hxc hx hm sm n1 hmv hp
  have HPT := Lib.hid hpt
  have HLT := Lib.hid lt
  have HSB := Lib.hid sb
  obtain ⟨Wm, hWm⟩ : ∃ Wm, Wm = w.alloc (.map #[] 0) := ⟨_, rfl⟩
  have hBm : Below w.heap.size w Wm := by rw [hWm]; exact belC (Below.refl _ _)
  have hmp : MpAt Wm w.heap.size iV inCV ([] : List (Int × InC)) := by rw [hWm]; exact ⟨#[], 0, alloc_new _ _, rfl, List.nodup_nil, List.Pairwise.nil, fun e h => by simp at h⟩
  have HBm := Lib.hid hBm
  have HMP := Lib.hid hmp
  have HWm := Lib.hid hWm
  clear hpt lt sb hWm hBm hmp
  go_enter Tryz.func90, Tryz.ntmps90
  go_wp2_with fail
  rw [← HWm.out]
  go_loopg [52] 1 (fun g s52 wr => LdRel w w.heap.size g s52 wr)
  case atStart => exact ⟨0, [], rfl, by omega, rfl, HMP.out, fun _ => rfl, fun h => by omega, HBm.out⟩
  case round =>
    obtain ⟨i, m, rfl, hi, rfl, hmp, hm0, hm1, hB⟩ := hrel
    by_cases hlt : i < 1
    · obtain rfl : i = 0 := by omega
      obtain rfl := hm0 rfl
      clear hm0 hm1
      have g0 := below_at hB h00 hxl
      have g1 := below_at hB h01 hxl
      have g2 := below_at hB h02 hxl
      have g3 := below_at hB h03 hxl
      have g4 := below_at hB h04 hxl
      have g5 := below_at hB h05 hxl
      obtain ⟨W1, hW1⟩ : ∃ W1, W1 = wr.alloc (.cells #[.int .i64 1, .int .i64 1, .int .i64 1, .int .i64 0, .int .i64 0, .slice pa (0 : Nat) pc] 102) := ⟨_, rfl⟩
      have hBW : Below wr.heap.size wr W1 := by rw [hW1]; exact belC (Below.refl _ _)
      have e0 : W1.cell? ⟨wr.heap.size, 0, none⟩ = some (.int .i64 1) := by rw [hW1]; go_simp
      have e1 : W1.cell? ⟨wr.heap.size, 1, none⟩ = some (.int .i64 1) := by rw [hW1]; go_simp
      have e2 : W1.cell? ⟨wr.heap.size, 2, none⟩ = some (.int .i64 1) := by rw [hW1]; go_simp
      have e3 : W1.cell? ⟨wr.heap.size, 3, none⟩ = some (.int .i64 0) := by rw [hW1]; go_simp
      have e4 : W1.cell? ⟨wr.heap.size, 4, none⟩ = some (.int .i64 0) := by rw [hW1]; go_simp
      have e5 : W1.cell? ⟨wr.heap.size, 5, none⟩ = some (.slice pa (0 : Nat) pc) := by rw [hW1]; go_simp
      have k5 : W1.frozen? ⟨wr.heap.size, 5, none⟩ = false := by rw [hW1]; go_simp
      have hwl := cell_lt e0
      have HK : Hid (∀ W, Below W1.heap.size W1 W → W.cell? ⟨wr.heap.size, 0, none⟩ = some (.int .i64 1) ∧ W.cell? ⟨wr.heap.size, 1, none⟩ = some (.int .i64 1) ∧ W.cell? ⟨wr.heap.size, 2, none⟩ = some (.int .i64 1) ∧ W.cell? ⟨wr.heap.size, 3, none⟩ = some (.int .i64 0) ∧ W.cell? ⟨wr.heap.size, 4, none⟩ = some (.int .i64 0) ∧ W.cell? ⟨wr.heap.size, 5, none⟩ = some (.slice pa (0 : Nat) pc)) := Lib.hid (fun W hb => ⟨below_at hb e0 hwl, below_at hb e1 hwl, below_at hb e2 hwl, below_at hb e3 hwl, below_at hb e4 hwl, below_at hb e5 hwl⟩)
      have HK5 := Lib.hid k5
      have HWL := Lib.hid hwl
      have HBr := Lib.hid hB
      have HBW := Lib.hid hBW
      have HMr := Lib.hid hmp
      have HW1 := Lib.hid hW1
      clear hW1 hBW e0 e1 e2 e3 e4 e5 k5 hwl hmp hB hi
      go_wp2_with fail
      rw [← HW1.out]
      have hBd : Below W1.heap.size W1 W1.drew := (Below.refl _ _).drew
      refine region_kwalk (S := fun W => (W.cell? ⟨wr.heap.size, 0, none⟩ = some (.int .i64 1) ∧ W.cell? ⟨wr.heap.size, 1, none⟩ = some (.int .i64 1) ∧ W.cell? ⟨wr.heap.size, 2, none⟩ = some (.int .i64 1) ∧ W.cell? ⟨wr.heap.size, 3, none⟩ = some (.int .i64 0) ∧ W.cell? ⟨wr.heap.size, 4, none⟩ = some (.int .i64 0) ∧ W.cell? ⟨wr.heap.size, 5, none⟩ = some (.slice pa (0 : Nat) pc)) ∧ Below W1.heap.size W1 W) (by kernel_rfl) (by kernel_rfl) (by kernel_rfl) ⟨HK.out _ hBd, hBd⟩ ?_
      clear hBd
      refine kwL ?_
      refine kw_call (v := .bool true) (f := 121) (args := #[.agg #[.int .i64 1, .int .i64 1, .int .i64 1, .int .i64 0, .int .i64 0, .slice pa (0 : Nat) pc]]) (by rfl) (by intro W hSw; go_simp; try with_reducible rfl) (fun W hS => (inoGood_root W pa pc).mono (fun e W2 h => ⟨h.1, HK.out W2 (hS.2.trans (h.2.mono hS.2.size)), hS.2.trans (h.2.mono hS.2.size)⟩)) (by simp only [Act.put, List.setIfInBounds_toArray, List.set_cons_zero, List.set_cons_succ]; rfl) ?_
      repeat (first | refine kwL ?_ | refine kwU ?_)
      refine kw_nil (fun W hW => ?_)
      obtain ⟨hWk, hBw⟩ := hW
      have HBw := Lib.hid hBw
      obtain ⟨e0, e1, e2, e3, e4, e5⟩ := hWk
      have k5 : W.frozen? ⟨wr.heap.size, 5, none⟩ = false := ((Mod.of_below (F := none') hBw).frozen (p := ⟨wr.heap.size, 5, none⟩) HWL.out id).trans HK5.out
      have hcl := ptClone_any W T pa pc [] ((HPT.out.below' (HBr.out.trans ((HBW.out.trans (hBw.mono HBW.out.size)).mono HBr.out.size))).row) (fun _ e => HPT.out.nil e) (Nat.zero_le _)
      clear hBw
      go_wp2_with fail
      refine hcl.mono ?_
      clear hcl
      rintro e W5 ⟨a3, c3, rfl, hr3, hc1, hc2, hc3, hB5⟩
      have hwl5 : wr.heap.size < W.heap.size := cell_lt e0
      have q0 := below_at hB5 e0 hwl5
      have q1 := below_at hB5 e1 hwl5
      have q2 := below_at hB5 e2 hwl5
      have q3 := below_at hB5 e3 hwl5
      have q4 := below_at hB5 e4 hwl5
      have q5 := below_at hB5 e5 hwl5
      have j5 : W5.frozen? ⟨wr.heap.size, 5, none⟩ = false := ((Mod.of_below (F := none') hB5).frozen (p := ⟨wr.heap.size, 5, none⟩) hwl5 id).trans k5
      have hBr5 : Below wr.heap.size wr W5 := (HBW.out.trans (HBw.out.mono HBW.out.size)).trans (hB5.mono (Nat.le_trans HBW.out.size HBw.out.size))
      have hwm : w.heap.size < wr.heap.size := by obtain ⟨es, ck, hh⟩ := HMr.out; exact block_lt hh.block
      obtain ⟨W6, hW6⟩ : ∃ W6, W6 = W5.setCell ⟨wr.heap.size, 5, none⟩ (.slice a3 (0 : Nat) c3) := ⟨_, rfl⟩
      have hM6 : Mod (· = wr.heap.size) wr W6 := by rw [hW6]; exact Mod.setCellAt (F := (· = wr.heap.size)) (Mod.of_below hBr5) (fun _ => rfl) _
      obtain ⟨W7, hu, hm7, hM7, hz7⟩ := MapAt.upz (HMr.out.mod hM6 (fun e => by omega)) keyInt Tryz.underlying176 1 ⟨1, 1, 1, 0, 0, a3, c3, []⟩
      simp only [iV, inCV, List.length_nil] at hu
      have hB6 : Below w.heap.size w W6 := by rw [hW6]; exact belC (HBr.out.trans (hBr5.mono HBr.out.size))
      have HB7 := Lib.hid (hB6.trans (hM7.below_at hB6.size (fun k hk e => by omega)))
      have HM7 := Lib.hid hm7
      have HC3 := Lib.hid (And.intro hc3 (And.intro hc1 hc2))
      rw [hW6] at hu
      clear hW6 hM6 hM7 hz7 hB6 hm7 hr3 hc1 hc2 hc3 hB5 e0 e1 e2 e3 e4 e5 k5 hBr5
      go_wp2_with fail
      go_roundg (1 - (0 + 1))
      case measure => omega
      case rel => exact ⟨1, _, rfl, Nat.le_refl _, rfl, HM7.out, fun h => by omega, fun _ => ⟨⟨1, 1, 1, 0, 0, a3, c3, []⟩, rfl, rfl, RwAt.nil _ _ _ _, fun e => HC3.out.1 rfl e, ⟨HC3.out.2.1, HC3.out.2.2⟩, Nat.zero_le _⟩, HB7.out⟩
    · obtain rfl : i = 1 := by omega
      obtain ⟨c, rfl, hcv, hcp⟩ := hm1 rfl
      have d0 := below_at hB c0 hbl
      have d1 := below_at hB c1 hbl
      have u0 := ((Mod.of_below (F := none') hB).frozen (p := ⟨b, 0, none⟩) hbl id).trans f0
      have u1 := ((Mod.of_below (F := none') hB).frozen (p := ⟨b, 1, none⟩) hbl id).trans f1
      have hwm : w.heap.size < wr.heap.size := by obtain ⟨es, ck, hh⟩ := hmp; exact block_lt hh.block
      have hM : Mod (· = b) wr ((wr.setCell ⟨b, 0, none⟩ (.map (some w.heap.size))).setCell ⟨b, 1, none⟩ (.int .i64 2)) := Mod.setCellAt (F := (· = b)) (Mod.setCellAt (F := (· = b)) (Mod.refl _ _) (fun _ => rfl) _) (fun _ => rfl) _
      have hmp2 := hmp.mod hM (fun e => by omega)
      have hcp2 := hcp.mod hM (fun k hk h2 e => by omega)
      have HB := Lib.hid hB
      have HM := Lib.hid hM
      have HMP2 := Lib.hid hmp2
      have HCP2 := Lib.hid hcp2
      have HCV := Lib.hid hcv
      clear hm0 hm1 hmp hcp hcv hB hM hmp2 hcp2
      go_wp2_with fail
      go_ret
      have hbr : b < wr.heap.size := cell_lt d0
      refine ⟨rfl, ⟨Or.inl HSB.out, fun k hk => ?_, w.heap.size, _, by go_simp, (by show _ = some (Value.int .i64 2); go_simp), fun j => ?_, HMP2.out, Or.inr ⟨Nat.le_refl _, by simp; omega⟩, fun e => by omega, by simp [HCV.out, tab0], fun p hp => ?_⟩, (Mod.of_below HB.out).trans HM.out⟩
      · rcases hk with hk | hk
        · have := HLT.out k hk; have := HB.out.size; simp; omega
        · exact hk.2
      · exact (World.frozen?_setCell _ _ _ _).trans ((World.frozen?_setCell _ _ _ _).trans (((Mod.of_below (F := none') HB.out).frozen (p := ⟨b, j, none⟩) hbl id).trans (F1.out j)))
      · obtain rfl : p = (1, c) := by simpa using hp
        exact HCP2.out.sub fun k hk h => ⟨Or.inr ⟨h.1, hk⟩, fun e => by omega, h.2⟩
end Go.Proofs.YtmnkackkeppheaaGreat
