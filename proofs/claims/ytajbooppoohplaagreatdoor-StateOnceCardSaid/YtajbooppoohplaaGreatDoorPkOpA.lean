import Derived.Test.YtajbooppoohplaaGreatDoorMac
import Derived.Test.YtajbooppoohplaaGreatDoorPkOpM
import Derived.Test.YtajbooppoohplaaGreatDoorEqRow
/- package op: kept -/
set_option maxRecDepth 100000
set_option maxHeartbeats 8000000
namespace Go.Proofs.YtajbooppoohplaaGreatDoor
open Go.RowKit Esch

def KeptRel (W0 : World) (ob : Nat) (x : OpS) (l : List UInt8) (g : Nat) (v19 : Value) (wr : World) : Prop :=
  ∃ i : Nat, g = l.length - i ∧ i ≤ l.length ∧ v19 = .int .i64 i ∧ OpAt wr ob ((l.take i).foldl x.put (opN x.client x.seq x.kind)) ∧ Mod (· = ob) W0 wr
theorem kept_any (w : World) (x : OpS) (hf : FieldsAt w) (h0 : 0 ≤ x.kind) (h1 : x.kind < 15) (hw : 0 < w.heap.size) :
    Calls Tryz.prog 125 #[.agg x.cells.toArray] w fun e w' => e = .returned (.agg x.kept.cells.toArray) ∧ Below w.heap.size w w' := by
 obtain ⟨k, hk⟩ : ∃ k : Nat, x.kind = k := ⟨x.kind.toNat, by omega⟩
 have hk15 : k < 15 := by omega
 have hkI : (k : Int) < 15 := by omega
 have e0 := hf k hk15
 have hkept : x.kept = (fldL k).foldl x.put (opN x.client x.seq x.kind) := by unfold OpS.kept; rw [hk]; rfl
 obtain ⟨rr, hrr⟩ : ∃ rr, rr = x.kept := ⟨_, rfl⟩
 rw [← hrr]
 obtain ⟨l, hl⟩ : ∃ l, l = fldL k := ⟨_, rfl⟩
 have hin : ∀ c ∈ l, c ∈ letters := fun c hc => fldL_in k c (by rw [← hl]; exact hc)
 have hlen : l.length ≤ 3 := by
  exact mK51
 have HR := Lib.hid (show rr = l.foldl x.put (opN x.client x.seq x.kind) by rw [hrr, hkept, hl])
 rw [← hl] at e0
 have HIN := Lib.hid hin
 clear hrr hkept hl hf hin
 have HX := Lib.hid (show x = x from rfl)
 obtain ⟨xc, xs, xk, xp, xd, xz, xh, xo, xt, xi, xn, mp, ml, mc⟩ := x
 simp only at hk h0 h1
 subst hk
 simp only [OpS.cells]
 go_enter Tryz.func125, Tryz.ntmps125
 go_wp2_with fail
 obtain ⟨W0, hW0, hB0⟩ : ∃ W0, W0 = ((w.alloc (.cells #[.int .i64 xc, .int .i64 xs, .int .i64 k, .string (bs xp), .string (bs xd), .int .i64 xz, .int .i64 xh, .int .i64 xo, .string xt, .int .i64 xi, .int .i64 xn, .slice mp ml mc] 31)).alloc (.cells #[.int .i64 0, .int .i64 0, .int .i64 0, .string ⟨#[]⟩, .string ⟨#[]⟩, .int .i64 0, .int .i64 0, .int .i64 0, .string ⟨#[]⟩, .int .i64 0, .int .i64 0, .slice none 0 0] 31)).alloc (.cells #[.int .i64 xc, .int .i64 xs, .int .i64 k, .string ⟨#[]⟩, .string ⟨#[]⟩, .int .i64 0, .int .i64 0, .int .i64 0, .string ⟨#[]⟩, .int .i64 0, .int .i64 0, .slice none 0 0] 31) ∧ Below w.heap.size w W0 := ⟨_, rfl, by exact belC (Below.refl _ _)⟩
 have a3 : W0.cell? ⟨w.heap.size, 3, none⟩ = some (.string (bs xp)) := by rw [hW0]; go_simp
 have a4 : W0.cell? ⟨w.heap.size, 4, none⟩ = some (.string (bs xd)) := by rw [hW0]; go_simp
 have a5 : W0.cell? ⟨w.heap.size, 5, none⟩ = some (.int .i64 xz) := by rw [hW0]; go_simp
 have a6 : W0.cell? ⟨w.heap.size, 6, none⟩ = some (.int .i64 xh) := by rw [hW0]; go_simp
 have a7 : W0.cell? ⟨w.heap.size, 7, none⟩ = some (.int .i64 xo) := by rw [hW0]; go_simp
 have a8 : W0.cell? ⟨w.heap.size, 8, none⟩ = some (.string xt) := by rw [hW0]; go_simp
 have a9 : W0.cell? ⟨w.heap.size, 9, none⟩ = some (.int .i64 xi) := by rw [hW0]; go_simp
 have a10 : W0.cell? ⟨w.heap.size, 10, none⟩ = some (.int .i64 xn) := by rw [hW0]; go_simp
 have a11 : W0.cell? ⟨w.heap.size, 11, none⟩ = some (.slice mp ml mc) := by rw [hW0]; go_simp
 have hO : OpAt W0 (w.heap.size + 1 + 1) (opN xc xs k) := by
  rw [hW0]
  refine ⟨fun j hj => ?_, fun j => by go_simp⟩
  have : j = 0 ∨ j = 1 ∨ j = 2 ∨ j = 3 ∨ j = 4 ∨ j = 5 ∨ j = 6 ∨ j = 7 ∨ j = 8 ∨ j = 9 ∨ j = 10 ∨ j = 11 := by omega
  rcases this with rfl | rfl | rfl | rfl | rfl | rfl | rfl | rfl | rfl | rfl | rfl | rfl <;> (go_simp; rfl)
 have hs0 : W0.heap.size = w.heap.size + 3 := by rw [hW0]; simp
 rw [← hW0]
 have HY := Lib.hid (show ∀ j, j < 12 → ∃ v, W0.cell? ⟨w.heap.size + 1, j, none⟩ = some v from fun j hj => by
   rw [hW0]
   have : j = 0 ∨ j = 1 ∨ j = 2 ∨ j = 3 ∨ j = 4 ∨ j = 5 ∨ j = 6 ∨ j = 7 ∨ j = 8 ∨ j = 9 ∨ j = 10 ∨ j = 11 := by omega
   rcases this with rfl | rfl | rfl | rfl | rfl | rfl | rfl | rfl | rfl | rfl | rfl | rfl <;> exact ⟨_, by go_simp; rfl⟩)
 have HZ := Lib.hid (show ∀ j, W0.frozen? ⟨w.heap.size + 1, j, none⟩ = false from fun j => by rw [hW0]; go_simp)
 clear hW0 e0
 go_loopg [19] l.length (fun g s19 wr => KeptRel W0 (w.heap.size + 1 + 1) ⟨xc, xs, k, xp, xd, xz, xh, xo, xt, xi, xn, mp, ml, mc⟩ l g s19 wr)
 case atStart => exact ⟨0, rfl, Nat.zero_le _, rfl, hO, Mod.refl _ _⟩
 case round =>
  obtain ⟨i, rfl, hil, rfl, hT, hM⟩ := hrel
  have HT := Lib.hid hT
  have HM := Lib.hid hM
  clear hT hM
  by_cases hlt : i < l.length
  · have hil2 : (0 : Int) ≤ i ∧ (i : Int) < l.length := by omega
    obtain ⟨c, hc⟩ : ∃ c, l[i]? = some c := ⟨_, List.getElem?_eq_getElem hlt⟩
    have hcl : c ∈ letters := HIN.out c (List.mem_of_getElem? hc)
    have hwr : wrap64 ((i : Int) + 1) = ((i + 1 : Nat) : Int) := by unfold wrap64; omega
    have HWR := Lib.hid hwr
    have hst : (l.take (i + 1)).foldl (OpS.put ⟨xc, xs, k, xp, xd, xz, xh, xo, xt, xi, xn, mp, ml, mc⟩) (opN xc xs k) = OpS.put ⟨xc, xs, k, xp, xd, xz, xh, xo, xt, xi, xn, mp, ml, mc⟩ ((l.take i).foldl (OpS.put ⟨xc, xs, k, xp, xd, xz, xh, xo, xt, xi, xn, mp, ml, mc⟩) (opN xc xs k)) c := by
     rw [List.take_add_one, hc, List.foldl_append]; rfl
    have HS := Lib.hid hst
    clear hwr hst
    simp only [letters, List.mem_cons, List.not_mem_nil, or_false] at hcl
    obtain ⟨o, ho⟩ : ∃ o, o = (l.take i).foldl (OpS.put ⟨xc, xs, k, xp, xd, xz, xh, xo, xt, xi, xn, mp, ml, mc⟩) (opN xc xs k) := ⟨_, rfl⟩
    rw [← ho] at HS HT
    clear ho
    obtain ⟨oc, os, ok, op, od, oz, oh, oo, ot, oi, on, om, ol, oq⟩ := o
    have hidx : ∀ h, (⟨l.toArray⟩ : ByteArray)[i]'h = c := fun h => by
     exact mK50
    have hbx : w.heap.size < wr.heap.size := by have := HM.out.size; omega
    rcases hcl with rfl | rfl | rfl | rfl | rfl | rfl | rfl | rfl | rfl
    · skip
      have b0 := HM.out.at a3 (by omega)
      have z0 : wr.cell? ⟨w.heap.size + 1 + 1, 3, none⟩ = some (.string (bs op)) := HT.out.1 3 (by decide)
      have r0 : wr.frozen? ⟨w.heap.size + 1 + 1, 3, none⟩ = false := HT.out.2 3
      go_wp2_with fail
      go_roundg (l.length - (i + 1))
      case measure => omega
      case rel => exact ⟨i + 1, rfl, by omega, (by first | rw [HWR.out] | simp), by rw [HS.out]; exact HT.out.set 3 _ (by decide) (by simp [OpS.put, OpS.cells]), HM.out.trans ((Mod.refl (· = w.heap.size + 1 + 1) wr).setCellAt (fun _ => rfl) _)⟩
    · skip
      have b0 := HM.out.at a4 (by omega)
      have z0 : wr.cell? ⟨w.heap.size + 1 + 1, 4, none⟩ = some (.string (bs od)) := HT.out.1 4 (by decide)
      have r0 : wr.frozen? ⟨w.heap.size + 1 + 1, 4, none⟩ = false := HT.out.2 4
      go_wp2_with fail
      go_roundg (l.length - (i + 1))
      case measure => omega
      case rel => exact ⟨i + 1, rfl, by omega, (by first | rw [HWR.out] | simp), by rw [HS.out]; exact HT.out.set 4 _ (by decide) (by simp [OpS.put, OpS.cells]), HM.out.trans ((Mod.refl (· = w.heap.size + 1 + 1) wr).setCellAt (fun _ => rfl) _)⟩
    · skip
      have b0 := HM.out.at a5 (by omega)
      have z0 : wr.cell? ⟨w.heap.size + 1 + 1, 5, none⟩ = some (.int .i64 oz) := HT.out.1 5 (by decide)
      have r0 : wr.frozen? ⟨w.heap.size + 1 + 1, 5, none⟩ = false := HT.out.2 5
      go_wp2_with fail
      go_roundg (l.length - (i + 1))
      case measure => omega
      case rel => exact ⟨i + 1, rfl, by omega, (by first | rw [HWR.out] | simp), by rw [HS.out]; exact HT.out.set 5 _ (by decide) (by simp [OpS.put, OpS.cells]), HM.out.trans ((Mod.refl (· = w.heap.size + 1 + 1) wr).setCellAt (fun _ => rfl) _)⟩
    · skip
      have b0 := HM.out.at a6 (by omega)
      have z0 : wr.cell? ⟨w.heap.size + 1 + 1, 6, none⟩ = some (.int .i64 oh) := HT.out.1 6 (by decide)
      have r0 : wr.frozen? ⟨w.heap.size + 1 + 1, 6, none⟩ = false := HT.out.2 6
      go_wp2_with fail
      go_roundg (l.length - (i + 1))
      case measure => omega
      case rel => exact ⟨i + 1, rfl, by omega, (by first | rw [HWR.out] | simp), by rw [HS.out]; exact HT.out.set 6 _ (by decide) (by simp [OpS.put, OpS.cells]), HM.out.trans ((Mod.refl (· = w.heap.size + 1 + 1) wr).setCellAt (fun _ => rfl) _)⟩
    · skip
      have b0 := HM.out.at a7 (by omega)
      have z0 : wr.cell? ⟨w.heap.size + 1 + 1, 7, none⟩ = some (.int .i64 oo) := HT.out.1 7 (by decide)
      have r0 : wr.frozen? ⟨w.heap.size + 1 + 1, 7, none⟩ = false := HT.out.2 7
      go_wp2_with fail
      go_roundg (l.length - (i + 1))
      case measure => omega
      case rel => exact ⟨i + 1, rfl, by omega, (by first | rw [HWR.out] | simp), by rw [HS.out]; exact HT.out.set 7 _ (by decide) (by simp [OpS.put, OpS.cells]), HM.out.trans ((Mod.refl (· = w.heap.size + 1 + 1) wr).setCellAt (fun _ => rfl) _)⟩
    · skip
      have b0 := HM.out.at a8 (by omega)
      have z0 : wr.cell? ⟨w.heap.size + 1 + 1, 8, none⟩ = some (.string ot) := HT.out.1 8 (by decide)
      have r0 : wr.frozen? ⟨w.heap.size + 1 + 1, 8, none⟩ = false := HT.out.2 8
      go_wp2_with fail
      go_roundg (l.length - (i + 1))
      case measure => omega
      case rel => exact ⟨i + 1, rfl, by omega, (by first | rw [HWR.out] | simp), by rw [HS.out]; exact HT.out.set 8 _ (by decide) (by simp [OpS.put, OpS.cells]), HM.out.trans ((Mod.refl (· = w.heap.size + 1 + 1) wr).setCellAt (fun _ => rfl) _)⟩
    · skip
      have b0 := HM.out.at a9 (by omega)
      have z0 : wr.cell? ⟨w.heap.size + 1 + 1, 9, none⟩ = some (.int .i64 oi) := HT.out.1 9 (by decide)
      have r0 : wr.frozen? ⟨w.heap.size + 1 + 1, 9, none⟩ = false := HT.out.2 9
      go_wp2_with fail
      go_roundg (l.length - (i + 1))
      case measure => omega
      case rel => exact ⟨i + 1, rfl, by omega, (by first | rw [HWR.out] | simp), by rw [HS.out]; exact HT.out.set 9 _ (by decide) (by simp [OpS.put, OpS.cells]), HM.out.trans ((Mod.refl (· = w.heap.size + 1 + 1) wr).setCellAt (fun _ => rfl) _)⟩
    · skip
      have b0 := HM.out.at a10 (by omega)
      have z0 : wr.cell? ⟨w.heap.size + 1 + 1, 10, none⟩ = some (.int .i64 on) := HT.out.1 10 (by decide)
      have r0 : wr.frozen? ⟨w.heap.size + 1 + 1, 10, none⟩ = false := HT.out.2 10
      go_wp2_with fail
      go_roundg (l.length - (i + 1))
      case measure => omega
      case rel => exact ⟨i + 1, rfl, by omega, (by first | rw [HWR.out] | simp), by rw [HS.out]; exact HT.out.set 10 _ (by decide) (by simp [OpS.put, OpS.cells]), HM.out.trans ((Mod.refl (· = w.heap.size + 1 + 1) wr).setCellAt (fun _ => rfl) _)⟩
    · skip
      have b0 := HM.out.at a11 (by omega)
      have z0 : wr.cell? ⟨w.heap.size + 1 + 1, 11, none⟩ = some (.slice om ol oq) := HT.out.1 11 (by decide)
      have r0 : wr.frozen? ⟨w.heap.size + 1 + 1, 11, none⟩ = false := HT.out.2 11
      go_wp2_with fail
      go_roundg (l.length - (i + 1))
      case measure => omega
      case rel => exact ⟨i + 1, rfl, by omega, (by first | rw [HWR.out] | simp), by rw [HS.out]; exact HT.out.set 11 _ (by decide) (by simp [OpS.put, OpS.cells]), HM.out.trans ((Mod.refl (· = w.heap.size + 1 + 1) wr).setCellAt (fun _ => rfl) _)⟩
  · obtain rfl : i = l.length := by omega
    rw [List.take_length] at HT
    obtain ⟨o, ho⟩ : ∃ o, o = rr := ⟨_, rfl⟩
    rw [← HR.out, ← ho] at HT
    clear HR
    obtain ⟨oc, os, ok, op, od, oz, oh, oo, ot, oi, on, om, ol, oq⟩ := o
    have HO := Lib.hid ho.symm
    clear ho
    have z0 : wr.cell? ⟨w.heap.size + 1 + 1, 0, none⟩ = some (.int .i64 oc) := HT.out.1 0 (by decide)
    have z1 : wr.cell? ⟨w.heap.size + 1 + 1, 1, none⟩ = some (.int .i64 os) := HT.out.1 1 (by decide)
    have z2 : wr.cell? ⟨w.heap.size + 1 + 1, 2, none⟩ = some (.int .i64 ok) := HT.out.1 2 (by decide)
    have z3 : wr.cell? ⟨w.heap.size + 1 + 1, 3, none⟩ = some (.string (bs op)) := HT.out.1 3 (by decide)
    have z4 : wr.cell? ⟨w.heap.size + 1 + 1, 4, none⟩ = some (.string (bs od)) := HT.out.1 4 (by decide)
    have z5 : wr.cell? ⟨w.heap.size + 1 + 1, 5, none⟩ = some (.int .i64 oz) := HT.out.1 5 (by decide)
    have z6 : wr.cell? ⟨w.heap.size + 1 + 1, 6, none⟩ = some (.int .i64 oh) := HT.out.1 6 (by decide)
    have z7 : wr.cell? ⟨w.heap.size + 1 + 1, 7, none⟩ = some (.int .i64 oo) := HT.out.1 7 (by decide)
    have z8 : wr.cell? ⟨w.heap.size + 1 + 1, 8, none⟩ = some (.string ot) := HT.out.1 8 (by decide)
    have z9 : wr.cell? ⟨w.heap.size + 1 + 1, 9, none⟩ = some (.int .i64 oi) := HT.out.1 9 (by decide)
    have z10 : wr.cell? ⟨w.heap.size + 1 + 1, 10, none⟩ = some (.int .i64 on) := HT.out.1 10 (by decide)
    have z11 : wr.cell? ⟨w.heap.size + 1 + 1, 11, none⟩ = some (.slice om ol oq) := HT.out.1 11 (by decide)
    obtain ⟨y0, hy0⟩ : ∃ v, wr.cell? ⟨w.heap.size + 1, 0, none⟩ = some v := (HY.out 0 (by decide)).elim fun v hv => ⟨v, HM.out.at hv (by omega)⟩
    obtain ⟨y1, hy1⟩ : ∃ v, wr.cell? ⟨w.heap.size + 1, 1, none⟩ = some v := (HY.out 1 (by decide)).elim fun v hv => ⟨v, HM.out.at hv (by omega)⟩
    obtain ⟨y2, hy2⟩ : ∃ v, wr.cell? ⟨w.heap.size + 1, 2, none⟩ = some v := (HY.out 2 (by decide)).elim fun v hv => ⟨v, HM.out.at hv (by omega)⟩
    obtain ⟨y3, hy3⟩ : ∃ v, wr.cell? ⟨w.heap.size + 1, 3, none⟩ = some v := (HY.out 3 (by decide)).elim fun v hv => ⟨v, HM.out.at hv (by omega)⟩
    obtain ⟨y4, hy4⟩ : ∃ v, wr.cell? ⟨w.heap.size + 1, 4, none⟩ = some v := (HY.out 4 (by decide)).elim fun v hv => ⟨v, HM.out.at hv (by omega)⟩
    obtain ⟨y5, hy5⟩ : ∃ v, wr.cell? ⟨w.heap.size + 1, 5, none⟩ = some v := (HY.out 5 (by decide)).elim fun v hv => ⟨v, HM.out.at hv (by omega)⟩
    obtain ⟨y6, hy6⟩ : ∃ v, wr.cell? ⟨w.heap.size + 1, 6, none⟩ = some v := (HY.out 6 (by decide)).elim fun v hv => ⟨v, HM.out.at hv (by omega)⟩
    obtain ⟨y7, hy7⟩ : ∃ v, wr.cell? ⟨w.heap.size + 1, 7, none⟩ = some v := (HY.out 7 (by decide)).elim fun v hv => ⟨v, HM.out.at hv (by omega)⟩
    obtain ⟨y8, hy8⟩ : ∃ v, wr.cell? ⟨w.heap.size + 1, 8, none⟩ = some v := (HY.out 8 (by decide)).elim fun v hv => ⟨v, HM.out.at hv (by omega)⟩
    obtain ⟨y9, hy9⟩ : ∃ v, wr.cell? ⟨w.heap.size + 1, 9, none⟩ = some v := (HY.out 9 (by decide)).elim fun v hv => ⟨v, HM.out.at hv (by omega)⟩
    obtain ⟨y10, hy10⟩ : ∃ v, wr.cell? ⟨w.heap.size + 1, 10, none⟩ = some v := (HY.out 10 (by decide)).elim fun v hv => ⟨v, HM.out.at hv (by omega)⟩
    obtain ⟨y11, hy11⟩ : ∃ v, wr.cell? ⟨w.heap.size + 1, 11, none⟩ = some v := (HY.out 11 (by decide)).elim fun v hv => ⟨v, HM.out.at hv (by omega)⟩
    have r0 : wr.frozen? ⟨w.heap.size + 1, 0, none⟩ = false := (HM.out.frozen (p := ⟨w.heap.size + 1, 0, none⟩) (by rw [hs0]; show w.heap.size + 1 < _; omega) (by show ¬ w.heap.size + 1 = w.heap.size + 1 + 1; omega)).trans (HZ.out 0)
    have r1 : wr.frozen? ⟨w.heap.size + 1, 1, none⟩ = false := (HM.out.frozen (p := ⟨w.heap.size + 1, 1, none⟩) (by rw [hs0]; show w.heap.size + 1 < _; omega) (by show ¬ w.heap.size + 1 = w.heap.size + 1 + 1; omega)).trans (HZ.out 1)
    have r2 : wr.frozen? ⟨w.heap.size + 1, 2, none⟩ = false := (HM.out.frozen (p := ⟨w.heap.size + 1, 2, none⟩) (by rw [hs0]; show w.heap.size + 1 < _; omega) (by show ¬ w.heap.size + 1 = w.heap.size + 1 + 1; omega)).trans (HZ.out 2)
    have r3 : wr.frozen? ⟨w.heap.size + 1, 3, none⟩ = false := (HM.out.frozen (p := ⟨w.heap.size + 1, 3, none⟩) (by rw [hs0]; show w.heap.size + 1 < _; omega) (by show ¬ w.heap.size + 1 = w.heap.size + 1 + 1; omega)).trans (HZ.out 3)
    have r4 : wr.frozen? ⟨w.heap.size + 1, 4, none⟩ = false := (HM.out.frozen (p := ⟨w.heap.size + 1, 4, none⟩) (by rw [hs0]; show w.heap.size + 1 < _; omega) (by show ¬ w.heap.size + 1 = w.heap.size + 1 + 1; omega)).trans (HZ.out 4)
    have r5 : wr.frozen? ⟨w.heap.size + 1, 5, none⟩ = false := (HM.out.frozen (p := ⟨w.heap.size + 1, 5, none⟩) (by rw [hs0]; show w.heap.size + 1 < _; omega) (by show ¬ w.heap.size + 1 = w.heap.size + 1 + 1; omega)).trans (HZ.out 5)
    have r6 : wr.frozen? ⟨w.heap.size + 1, 6, none⟩ = false := (HM.out.frozen (p := ⟨w.heap.size + 1, 6, none⟩) (by rw [hs0]; show w.heap.size + 1 < _; omega) (by show ¬ w.heap.size + 1 = w.heap.size + 1 + 1; omega)).trans (HZ.out 6)
    have r7 : wr.frozen? ⟨w.heap.size + 1, 7, none⟩ = false := (HM.out.frozen (p := ⟨w.heap.size + 1, 7, none⟩) (by rw [hs0]; show w.heap.size + 1 < _; omega) (by show ¬ w.heap.size + 1 = w.heap.size + 1 + 1; omega)).trans (HZ.out 7)
    have r8 : wr.frozen? ⟨w.heap.size + 1, 8, none⟩ = false := (HM.out.frozen (p := ⟨w.heap.size + 1, 8, none⟩) (by rw [hs0]; show w.heap.size + 1 < _; omega) (by show ¬ w.heap.size + 1 = w.heap.size + 1 + 1; omega)).trans (HZ.out 8)
    have r9 : wr.frozen? ⟨w.heap.size + 1, 9, none⟩ = false := (HM.out.frozen (p := ⟨w.heap.size + 1, 9, none⟩) (by rw [hs0]; show w.heap.size + 1 < _; omega) (by show ¬ w.heap.size + 1 = w.heap.size + 1 + 1; omega)).trans (HZ.out 9)
    have r10 : wr.frozen? ⟨w.heap.size + 1, 10, none⟩ = false := (HM.out.frozen (p := ⟨w.heap.size + 1, 10, none⟩) (by rw [hs0]; show w.heap.size + 1 < _; omega) (by show ¬ w.heap.size + 1 = w.heap.size + 1 + 1; omega)).trans (HZ.out 10)
    have r11 : wr.frozen? ⟨w.heap.size + 1, 11, none⟩ = false := (HM.out.frozen (p := ⟨w.heap.size + 1, 11, none⟩) (by rw [hs0]; show w.heap.size + 1 < _; omega) (by show ¬ w.heap.size + 1 = w.heap.size + 1 + 1; omega)).trans (HZ.out 11)
    have hlr : w.heap.size + 1 < wr.heap.size := cell_lt hy0
    have hBr : Below w.heap.size w wr := hB0.trans (HM.out.below_at hB0.size (fun k hk e => by have e : k = w.heap.size + 1 + 1 := e; omega))
    clear HT HY HZ
    go_wp2_with fail
    refine bodyPost_ret (v := .agg #[.int .i64 oc, .int .i64 os, .int .i64 ok, .string (bs op), .string (bs od), .int .i64 oz, .int .i64 oh, .int .i64 oo, .string ot, .int .i64 oi, .int .i64 on, .slice om ol oq]) (by simp [results, Tryz.results125, go_sem, *]) rfl ?_
    exact ⟨by rw [HO.out], by exact belC hBr⟩
end Go.Proofs.YtajbooppoohplaaGreatDoor
/- package op: Same, the forms' table, Good -/
namespace Esch
open Go
theorem bytes_beq (x y : ByteArray) : (x.toList == y.toList) = decide (x = y) := by
 rw [ByteArray.toList_eq, ByteArray.toList_eq]
 by_cases h : x = y
 · subst h; simp
 · rw [decide_eq_false h]
   have : ¬ x.data.toList = y.data.toList := fun e => h (ByteArray.ext (by rw [← Array.toArray_toList (xs := x.data), e]))
   simpa using this
end Esch
namespace Go.Proofs.YtajbooppoohplaaGreatDoor
open Go.RowKit Esch

set_option linter.unusedSimpArgs false
theorem opSame_any (w : World) (x y : OpS) (mv nv : List Mv) (hx : OpIn w x mv) (hy : RwAt w (fun _ => True) 4 y.ml y.mp (nv.flatMap mvC)) (hyl : y.ml = nv.length) (h16 : mv.length ≤ 100000) (hq : mv = nv ↔ x.ml = y.ml) :
    Calls Tryz.prog 124 #[.agg x.cells.toArray, .agg y.cells.toArray] w (BoolB w (x.alike y)) := by
 obtain ⟨xc, xs, xk, p, q, xz, xh, xo, xt, xi, xn, mp, ml, mc⟩ := x
 obtain ⟨yc, ys, yk, p2, q2, yz, yh, yo, yt, yi, yn, np, nl, nc⟩ := y
 obtain ⟨hlen, hrow, -, -⟩ := hx
 simp only at hlen hrow hy hyl hq
 subst hlen
 subst hyl
 unfold OpS.alike
 simp only [OpS.cells]
 by_cases h0 : xc = yc
 rotate_left 1
 · have e0 : (xc == yc) = false := by simpa using h0
   rw [decide_eq_false h0]
   simp only [Bool.false_and, Bool.and_false, decide_true, Bool.true_and]
   clear h0 hrow hy hq
   exact mK52
 subst h0
 by_cases h1 : xs = ys
 rotate_left 1
 · have e1 : (xs == ys) = false := by simpa using h1
   rw [decide_eq_false h1]
   simp only [Bool.false_and, Bool.and_false, decide_true, Bool.true_and]
   clear h1 hrow hy hq
   exact mK52
 subst h1
 by_cases h2 : xk = yk
 rotate_left 1
 · have e2 : (xk == yk) = false := by simpa using h2
   rw [decide_eq_false h2]
   simp only [Bool.false_and, Bool.and_false, decide_true, Bool.true_and]
   clear h2 hrow hy hq
   exact mK52
 subst h2
 by_cases h3 : p = p2
 rotate_left 1
 · have e3 : ((bs p).toList == (bs p2).toList) = false := by rw [bs_eq_iff]; exact decide_eq_false h3
   rw [decide_eq_false h3]
   simp only [Bool.false_and, Bool.and_false, decide_true, Bool.true_and]
   clear h3 hrow hy hq
   exact mK52
 subst h3
 by_cases h4 : q = q2
 rotate_left 1
 · have e4 : ((bs q).toList == (bs q2).toList) = false := by rw [bs_eq_iff]; exact decide_eq_false h4
   rw [decide_eq_false h4]
   simp only [Bool.false_and, Bool.and_false, decide_true, Bool.true_and]
   clear h4 hrow hy hq
   exact mK52
 subst h4
 by_cases h5 : xz = yz
 rotate_left 1
 · have e5 : (xz == yz) = false := by simpa using h5
   rw [decide_eq_false h5]
   simp only [Bool.false_and, Bool.and_false, decide_true, Bool.true_and]
   clear h5 hrow hy hq
   exact mK52
 subst h5
 by_cases h6 : xh = yh
 rotate_left 1
 · have e6 : (xh == yh) = false := by simpa using h6
   rw [decide_eq_false h6]
   simp only [Bool.false_and, Bool.and_false, decide_true, Bool.true_and]
   clear h6 hrow hy hq
   exact mK52
 subst h6
 by_cases h7 : xo = yo
 rotate_left 1
 · have e7 : (xo == yo) = false := by simpa using h7
   rw [decide_eq_false h7]
   simp only [Bool.false_and, Bool.and_false, decide_true, Bool.true_and]
   clear h7 hrow hy hq
   exact mK52
 subst h7
 by_cases h8 : xt = yt
 rotate_left 1
 · have e8 : (xt.toList == yt.toList) = false := by rw [bytes_beq]; exact decide_eq_false h8
   rw [decide_eq_false h8]
   simp only [Bool.false_and, Bool.and_false, decide_true, Bool.true_and]
   clear h8 hrow hy hq
   exact mK52
 subst h8
 by_cases h9 : xi = yi
 rotate_left 1
 · have e9 : (xi == yi) = false := by simpa using h9
   rw [decide_eq_false h9]
   simp only [Bool.false_and, Bool.and_false, decide_true, Bool.true_and]
   clear h9 hrow hy hq
   exact mK52
 subst h9
 by_cases h10 : xn = yn
 rotate_left 1
 · have e10 : (xn == yn) = false := by simpa using h10
   rw [decide_eq_false h10]
   simp only [Bool.false_and, Bool.and_false, decide_true, Bool.true_and]
   clear h10 hrow hy hq
   exact mK52
 subst h10
 simp only [decide_true, Bool.true_and]
 obtain ⟨W1, hW1⟩ : ∃ W1, W1 = (w.alloc (.cells #[.int .i64 xc, .int .i64 xs, .int .i64 xk, .string (bs p), .string (bs q), .int .i64 xz, .int .i64 xh, .int .i64 xo, .string xt, .int .i64 xi, .int .i64 xn, .slice mp mv.length mc] 31)).alloc (.cells #[.int .i64 xc, .int .i64 xs, .int .i64 xk, .string (bs p), .string (bs q), .int .i64 xz, .int .i64 xh, .int .i64 xo, .string xt, .int .i64 xi, .int .i64 xn, .slice np nv.length nc] 31) := ⟨_, rfl⟩
 have hB1 : Below w.heap.size w W1 := by rw [hW1]; exact belC (Below.refl _ _)
 have heq := eqMv_any W1 _ _ mp np mc nc mv nv (hrow.below' hB1) (hy.below' hB1) h16
 rw [show decide (mv = nv) = decide (mv.length = nv.length) from decide_eq_decide.2 hq] at heq
 generalize decide (mv.length = nv.length) = r at heq ⊢
 clear hrow hy hq h16
 go_enter Tryz.func124, Tryz.ntmps124
 go_wp2_with fail
 rw [← hW1]
 refine heq.mono ?_
 clear heq
 rintro e w2 ⟨rfl, hB2⟩
 go_wp2_with fail
 go_ret
 exact ⟨rfl, hB1.trans (hB2.mono hB1.size)⟩
theorem kept_moves (x : OpS) : (x.kept.ml = 0 ∧ x.kept.mp = none) ∨ (x.kept.ml = x.ml ∧ x.kept.mp = x.mp) := by
 have hstep : ∀ (l : List UInt8) (o : OpS), (o.ml = 0 ∧ o.mp = none) ∨ (o.ml = x.ml ∧ o.mp = x.mp) → ((l.foldl x.put o).ml = 0 ∧ (l.foldl x.put o).mp = none) ∨ ((l.foldl x.put o).ml = x.ml ∧ (l.foldl x.put o).mp = x.mp) := by
  intro l
  induction l with
  | nil => exact fun o h => h
  | cons a l ih =>
    intro o h
    refine ih _ ?_
    unfold OpS.put
    repeat' split
    all_goals first | exact h | exact Or.inr ⟨rfl, rfl⟩
 exact hstep _ _ (Or.inl ⟨rfl, rfl⟩)
theorem opSame_kept (w : World) (x : OpS) (mv : List Mv) (hx : OpIn w x mv) (h16 : mv.length ≤ 100000) :
    Calls Tryz.prog 124 #[.agg x.cells.toArray, .agg x.kept.cells.toArray] w (BoolB w (x.alike x.kept)) := by
 rcases kept_moves x with ⟨h1, h2⟩ | ⟨h1, h2⟩
 · refine opSame_any w x x.kept mv [] hx (by rw [h1]; exact RwAt.nil _ _ _ _) h1 h16 ?_
   rw [h1, hx.len]
   exact List.length_eq_zero_iff.symm
 · exact opSame_any w x x.kept mv mv hx (by rw [h1, h2, hx.len]; exact hx.row) (by rw [h1, hx.len]) h16 (by rw [h1]; simp)
end Go.Proofs.YtajbooppoohplaaGreatDoor
/- package op: the forms' table -/
namespace Go.Proofs.YtajbooppoohplaaGreatDoor
open Go.RowKit Esch

abbrev opF (f : Nat) : Value := .func (.func f) #[] #[]
abbrev formsV (fb : Nat) : Value := .agg #[.nilFunc, opF 161, opF 161, opF 161, opF 163, opF 161, opF 163, .func (.func 165) #[] #[.pointer (some ⟨fb, 0, none⟩)], opF 161, opF 166, opF 167, opF 164, opF 164, opF 168, opF 171]
theorem idxO1 (f0 f1 f2 f3 f4 f5 f6 f7 f8 f9 f10 f11 f12 f13 f14 : Value) (w : World) : (Instr.index 222 (.agg #[f0, f1, f2, f3, f4, f5, f6, f7, f8, f9, f10, f11, f12, f13, f14]) (.int .i64 1)).run Tryz.prog w = .ok f1 w := by kernel_rfl
theorem idxO2 (f0 f1 f2 f3 f4 f5 f6 f7 f8 f9 f10 f11 f12 f13 f14 : Value) (w : World) : (Instr.index 222 (.agg #[f0, f1, f2, f3, f4, f5, f6, f7, f8, f9, f10, f11, f12, f13, f14]) (.int .i64 2)).run Tryz.prog w = .ok f2 w := by kernel_rfl
theorem idxO3 (f0 f1 f2 f3 f4 f5 f6 f7 f8 f9 f10 f11 f12 f13 f14 : Value) (w : World) : (Instr.index 222 (.agg #[f0, f1, f2, f3, f4, f5, f6, f7, f8, f9, f10, f11, f12, f13, f14]) (.int .i64 3)).run Tryz.prog w = .ok f3 w := by kernel_rfl
theorem idxO4 (f0 f1 f2 f3 f4 f5 f6 f7 f8 f9 f10 f11 f12 f13 f14 : Value) (w : World) : (Instr.index 222 (.agg #[f0, f1, f2, f3, f4, f5, f6, f7, f8, f9, f10, f11, f12, f13, f14]) (.int .i64 4)).run Tryz.prog w = .ok f4 w := by kernel_rfl
theorem idxO5 (f0 f1 f2 f3 f4 f5 f6 f7 f8 f9 f10 f11 f12 f13 f14 : Value) (w : World) : (Instr.index 222 (.agg #[f0, f1, f2, f3, f4, f5, f6, f7, f8, f9, f10, f11, f12, f13, f14]) (.int .i64 5)).run Tryz.prog w = .ok f5 w := by kernel_rfl
theorem idxO6 (f0 f1 f2 f3 f4 f5 f6 f7 f8 f9 f10 f11 f12 f13 f14 : Value) (w : World) : (Instr.index 222 (.agg #[f0, f1, f2, f3, f4, f5, f6, f7, f8, f9, f10, f11, f12, f13, f14]) (.int .i64 6)).run Tryz.prog w = .ok f6 w := by kernel_rfl
theorem idxO7 (f0 f1 f2 f3 f4 f5 f6 f7 f8 f9 f10 f11 f12 f13 f14 : Value) (w : World) : (Instr.index 222 (.agg #[f0, f1, f2, f3, f4, f5, f6, f7, f8, f9, f10, f11, f12, f13, f14]) (.int .i64 7)).run Tryz.prog w = .ok f7 w := by kernel_rfl
theorem idxO8 (f0 f1 f2 f3 f4 f5 f6 f7 f8 f9 f10 f11 f12 f13 f14 : Value) (w : World) : (Instr.index 222 (.agg #[f0, f1, f2, f3, f4, f5, f6, f7, f8, f9, f10, f11, f12, f13, f14]) (.int .i64 8)).run Tryz.prog w = .ok f8 w := by kernel_rfl
theorem idxO9 (f0 f1 f2 f3 f4 f5 f6 f7 f8 f9 f10 f11 f12 f13 f14 : Value) (w : World) : (Instr.index 222 (.agg #[f0, f1, f2, f3, f4, f5, f6, f7, f8, f9, f10, f11, f12, f13, f14]) (.int .i64 9)).run Tryz.prog w = .ok f9 w := by kernel_rfl
theorem idxO10 (f0 f1 f2 f3 f4 f5 f6 f7 f8 f9 f10 f11 f12 f13 f14 : Value) (w : World) : (Instr.index 222 (.agg #[f0, f1, f2, f3, f4, f5, f6, f7, f8, f9, f10, f11, f12, f13, f14]) (.int .i64 10)).run Tryz.prog w = .ok f10 w := by kernel_rfl
theorem idxO11 (f0 f1 f2 f3 f4 f5 f6 f7 f8 f9 f10 f11 f12 f13 f14 : Value) (w : World) : (Instr.index 222 (.agg #[f0, f1, f2, f3, f4, f5, f6, f7, f8, f9, f10, f11, f12, f13, f14]) (.int .i64 11)).run Tryz.prog w = .ok f11 w := by kernel_rfl
theorem idxO12 (f0 f1 f2 f3 f4 f5 f6 f7 f8 f9 f10 f11 f12 f13 f14 : Value) (w : World) : (Instr.index 222 (.agg #[f0, f1, f2, f3, f4, f5, f6, f7, f8, f9, f10, f11, f12, f13, f14]) (.int .i64 12)).run Tryz.prog w = .ok f12 w := by kernel_rfl
theorem idxO13 (f0 f1 f2 f3 f4 f5 f6 f7 f8 f9 f10 f11 f12 f13 f14 : Value) (w : World) : (Instr.index 222 (.agg #[f0, f1, f2, f3, f4, f5, f6, f7, f8, f9, f10, f11, f12, f13, f14]) (.int .i64 13)).run Tryz.prog w = .ok f13 w := by kernel_rfl
theorem idxO14 (f0 f1 f2 f3 f4 f5 f6 f7 f8 f9 f10 f11 f12 f13 f14 : Value) (w : World) : (Instr.index 222 (.agg #[f0, f1, f2, f3, f4, f5, f6, f7, f8, f9, f10, f11, f12, f13, f14]) (.int .i64 14)).run Tryz.prog w = .ok f14 w := by kernel_rfl
theorem forms_any (w : World) : Calls Tryz.prog 123 #[] w fun e w' => ∃ fb, e = .returned (formsV fb) ∧ w'.cell? ⟨fb, 0, none⟩ = some (opF 161) ∧ Below w.heap.size w w' := by
 have hmf : ∀ (fn : Fn) (first cap : Array Value) (w : World), (Instr.makeFunc fn first cap).run Tryz.prog w = .ok (.func fn first cap) w := fun _ _ _ _ => rfl
 have hst := fun (a : Addr) (f : Fn) (fst cap : Array Value) (m : Mode) (W : World) => run_store Tryz.prog W a (.func f fst cap) m rfl
 have hst0 := fun (a : Addr) (m : Mode) (W : World) => run_store Tryz.prog W a .nilFunc m rfl
 go_enter Tryz.func123, Tryz.ntmps123
 go_wp2_with fail
 refine bodyPost_ret (v := formsV (w.heap.size + 1)) (by simp [results, Tryz.results123, go_sem, *]) rfl ?_
 exact ⟨w.heap.size + 1, rfl, by go_simp, by exact belC (Below.refl _ _)⟩
end Go.Proofs.YtajbooppoohplaaGreatDoor
