/- law20.Own: inodes in new memory -/
import Derived.Test.YtpiogibkleaaaaaGreatDoorPkInd
namespace Esch
open Go Go.RowKit
theorem rowNil9 {w : World} {S : Nat → Prop} {size len cap : Nat} {ao : Option Addr} {xs : List Value} (h : GRowAt w S size len cap ao xs) (e : ao = none) : cap = 0 := by
  rcases Nat.eq_zero_or_pos cap with h0 | h0
  · exact h0
  · obtain ⟨b, off, e2, -⟩ := h.at' h0
    rw [e] at e2; cases e2
end Esch
namespace Go.Proofs.YtpiogibkleaaaaaGreatDoor
open Go.RowKit Esch Go.Shelf

theorem Tryz.infoIno : (Tryz.prog.info? 147).map (fun i => (i.zero, i.size, i.bytes)) = some (some (.agg #[.int .i64 0, .int .i64 0, .int .i64 0, .int .i64 0, .int .i64 0, .slice none 0 0]), 6, 64) := by kernel_rfl
theorem Tryz.infoPt : (Tryz.prog.info? 79).map (fun i => (i.zero, i.size, i.bytes)) = some (some (.agg #[.int .i64 0, .int .i64 0, .int .i64 0, .int .i64 0]), 4, 32) := by kernel_rfl
def IOwnRel (w : World) (l : List InC) (g : Nat) (v3 v4 : Value) (wr : World) : Prop :=
  ∃ (i : Nat) (ao : Option Addr) (cap : Nat) (k : List InC) (R : Nat → Prop), g = l.length - i ∧ i ≤ l.length ∧ v4 = .int .i64 i ∧ v3 = .slice ao i cap ∧ GRowAt wr R 6 i cap ao (k.flatMap InC.cells) ∧ (∀ b, R b → w.heap.size ≤ b ∧ b < wr.heap.size) ∧ (∀ x ∈ k, PcOk wr (fun b => w.heap.size ≤ b ∧ ¬ R b) x) ∧ k.map InC.val = (l.take i).map InC.val ∧ Below w.heap.size w wr
def IOwnPost (w : World) (l : List InC) (e : Ending) (w' : World) : Prop := ∃ a c k, e = .returned (.slice a k.length c) ∧ InosAt w' (From w.heap.size) a k ∧ k.map InC.val = l.map InC.val ∧ Below w.heap.size w w'
set_option linter.unusedSimpArgs false in
set_option maxRecDepth 100000 in
set_option maxHeartbeats 8000000 in
theorem inoOwn_any (w : World) (S : Nat → Prop) (a : Option Addr) (c : Nat) (l : List InC) (h : InosAt w S a l) (hl : l.length ≤ 100000) :
    Calls Tryz.prog 34 #[.slice a l.length c] w (IOwnPost w l) := by
  obtain ⟨j0, hi, hy0, hy1, hy2⟩ := info_parts Tryz.infoIno
  obtain ⟨p0, hp, hq0, hq1, hq2⟩ := info_parts Tryz.infoPt
  have HE := Lib.hid h
  have Hll := Lib.hid hl
  clear h hl
  go_enter Tryz.func34, Tryz.ntmps34
  go_wp2_with fail
  go_loopg [3, 4] l.length (fun g s3 s4 wr => IOwnRel w l g s3 s4 wr)
  case atStart => exact ⟨0, none, 0, [], none', rfl, Nat.zero_le _, rfl, rfl, GRowAt.nil _ _ _ _, fun _ h => h.elim, by simp, rfl, Below.refl _ _⟩
  case round =>
    obtain ⟨i, ao, cap, kk, R, rfl, hil, rfl, rfl, hG, hR, hP, hV, hB'⟩ := hrel
    have HR := Lib.hid hR
    have HG := Lib.hid hG
    have HP := Lib.hid hP
    have HV := Lib.hid hV
    have HB' := Lib.hid hB'
    clear hG hR hP hV hB'
    by_cases hlt : i < l.length
    · obtain ⟨bk, off, rfl, hSb, hbl, hc⟩ := HE.out.row.elem InC.cells_len default hlt
      have hpu := HE.out.pts _ (getDmem l default hlt)
      have HT := Lib.hid (take_one l default hlt)
      have hlt' := Lib.hid hlt
      have HBK := Lib.hid hbl
      generalize l.getD i default = u at *
      obtain ⟨u0, u1, u2, u3, u4, pu, cu, lu⟩ := u
      have f0 : wr.cell? ⟨bk, off + i * 6, none⟩ = some (.int .i64 u0) := below_at HB'.out (hc 0 (by decide)) hbl
      have f1 : wr.cell? ⟨bk, off + i * 6 + 1, none⟩ = some (.int .i64 u1) := below_at HB'.out (hc 1 (by decide)) hbl
      have f2 : wr.cell? ⟨bk, off + i * 6 + 2, none⟩ = some (.int .i64 u2) := below_at HB'.out (hc 2 (by decide)) hbl
      have f3 : wr.cell? ⟨bk, off + i * 6 + 3, none⟩ = some (.int .i64 u3) := below_at HB'.out (hc 3 (by decide)) hbl
      have f4 : wr.cell? ⟨bk, off + i * 6 + 4, none⟩ = some (.int .i64 u4) := below_at HB'.out (hc 4 (by decide)) hbl
      have f5 : wr.cell? ⟨bk, off + i * 6 + 5, none⟩ = some (.slice pu lu.length cu) := below_at HB'.out (hc 5 (by decide)) hbl
      have hbl' : bk < wr.heap.size := cell_lt f0
      have hil2 : (0 : Int) ≤ i ∧ (i : Int) < l.length := by omega
      have hwr := Lib.hid (show wrap64 ((i : Int) + 1) = ((i + 1 : Nat) : Int) by unfold wrap64; have := Hll.out; omega)
      have hms : l.length - (i + 1) < l.length - i := by omega
      obtain ⟨W1, hW1⟩ : ∃ W1, W1 = wr.alloc (.cells #[.int .i64 u0, .int .i64 u1, .int .i64 u2, .int .i64 u3, .int .i64 u4, .slice pu lu.length cu] 76) := ⟨_, rfl⟩
      have hB1 : Below wr.heap.size wr W1 := by rw [hW1]; exact belC (Below.refl _ _)
      have hz1 : W1.heap.size = wr.heap.size + 1 := by rw [hW1]; simp
      have e0 : W1.drew.cell? ⟨wr.heap.size, 0, none⟩ = some (.int .i64 u0) := by rw [hW1]; go_simp
      have e1 : W1.drew.cell? ⟨wr.heap.size, 1, none⟩ = some (.int .i64 u1) := by rw [hW1]; go_simp
      have e2 : W1.drew.cell? ⟨wr.heap.size, 2, none⟩ = some (.int .i64 u2) := by rw [hW1]; go_simp
      have e3 : W1.drew.cell? ⟨wr.heap.size, 3, none⟩ = some (.int .i64 u3) := by rw [hW1]; go_simp
      have e4 : W1.drew.cell? ⟨wr.heap.size, 4, none⟩ = some (.int .i64 u4) := by rw [hW1]; go_simp
      have e5 : W1.drew.cell? ⟨wr.heap.size, 5, none⟩ = some (.slice pu lu.length cu) := by rw [hW1]; go_simp
      obtain ⟨xb, hxb⟩ : ∃ xb, xb = wr.heap.size := ⟨_, rfl⟩
      rw [← hxb] at e0 e1 e2 e3 e4 e5
      have hxl : xb < W1.drew.heap.size := by show xb < W1.heap.size; omega
      have HXB := Lib.hid hxb
      have HW1 := Lib.hid hW1
      have HB1 := Lib.hid hB1
      have HZ1 := Lib.hid hz1
      have hpu2 := hpu.mod (F := none') (Mod.of_below (HB'.out.trans ((hB1.mono HB'.out.size).drew))) (fun _ _ _ => id)
      have HPR := Lib.hid (show PtsAt W1.drew S pu lu from hpu2.row)
      have HPN := Lib.hid (show lu.length = 0 → pu = none → cu = 0 from fun _ e => hpu2.nil e)
      have HPF := Lib.hid (show lu.length ≤ 100000 from hpu2.few)
      have HXL := Lib.hid hxl
      clear hc hbl hpu hpu2 hxb hW1 hB1 hz1
      go_wp2_with fail
      rw [← HW1.out, ← HXB.out]
      clear f0 f1 f2 f3 f4 f5
      refine wp_region_held_drew (S := fun W' => W'.cell? ⟨xb, 0, none⟩ = some (.int .i64 u0) ∧ W'.cell? ⟨xb, 1, none⟩ = some (.int .i64 u1) ∧ W'.cell? ⟨xb, 2, none⟩ = some (.int .i64 u2) ∧ W'.cell? ⟨xb, 3, none⟩ = some (.int .i64 u3) ∧ W'.cell? ⟨xb, 4, none⟩ = some (.int .i64 u4) ∧ W'.cell? ⟨xb, 5, none⟩ = some (.slice pu lu.length cu)) (by kernel_rfl) ⟨e0, e1, e2, e3, e4, e5⟩ (fun hHeld => ?_)
      refine takeL 0 ?_
      refine takeL 1 ?_
      refine takeL 2 ?_
      refine takeL 3 ?_
      refine takeL 4 ?_
      refine takeL 5 ?_
      refine takeL 6 ?_
      refine takeL 7 ?_
      refine takeL 8 ?_
      refine takeL 9 ?_
      refine takeL 10 ?_
      refine takeL 12 ?_
      refine takeL 13 ?_
      refine wpAnyH_ready (rs := [11]) (by kernel_rfl) (by simp) ?_
      refine AllReadyH.cons (o := _) rfl (fun K hK => ?_) AllReadyH.nil
      go_simp
      obtain ⟨W2, hW2⟩ : ∃ W2, W2 = (W1.alloc (.cells #[] 79)).drew := ⟨_, rfl⟩
      have hB2' : Below W1.heap.size W1 W2 := by rw [hW2]; exact belC (Below.refl _ _)
      have hB2 : Below W1.drew.heap.size W1.drew W2 := ⟨hB2'.os, hB2'.tape, hB2'.output, hB2'.size, hB2'.block⟩
      have hz2 : W2.heap.size = W1.heap.size + 1 := by rw [hW2]; simp
      rw [← hW2]
      have HBX := hB2
      have F0 := below_at HBX e0 hxl
      have F1 := below_at HBX e1 hxl
      have F2 := below_at HBX e2 hxl
      have F3 := below_at HBX e3 hxl
      have F4 := below_at HBX e4 hxl
      have F5 := below_at HBX e5 hxl
      try go_wp2_with fail
      refine hK _ _ ⟨F0, F1, F2, F3, F4, F5⟩ (fun hHeld => ?_)
      clear hK K
      try simp only [Act.put, List.setIfInBounds_toArray, List.set_cons_zero, List.set_cons_succ]
      clear HBX F0 F1 F2 F3 F4 F5
      refine wpAnyH_ready (rs := [14]) (by kernel_rfl) (by simp) ?_
      refine AllReadyH.cons (o := _) rfl (fun K hK => ?_) AllReadyH.nil
      refine step_append_g (by rfl) (.tmp 27) (.tmp 29) 74 74 (by rfl) 79 p0 _ 32 Tryz.underlying74 hp hq0 hq1 hq2 (by rfl) (by rfl) (GRowAt.nil _ none' 4 _) _ lu.length (lu.flatMap ptC) (by rfl) ((HPR.out.below' hB2).src Tryz.underlying74 (ptC_one lu) cu HPN.out) (by have := HPF.out; omega) (by have := HPF.out; omega) ?_
      intro a4 cap4 w4 hg4 hM4 hz4
      simp only [Nat.zero_add, List.nil_append] at hg4
      have hB4 : Below W1.drew.heap.size W1.drew w4 := hB2.trans (hM4.below_at hB2.size (fun k hk e => e.elim))
      have HBX := hB4
      have F0 := below_at HBX e0 hxl
      have F1 := below_at HBX e1 hxl
      have F2 := below_at HBX e2 hxl
      have F3 := below_at HBX e3 hxl
      have F4 := below_at HBX e4 hxl
      have F5 := below_at HBX e5 hxl
      rw [Nat.zero_add]
      try go_wp2_with fail
      refine hK _ _ ⟨F0, F1, F2, F3, F4, F5⟩ (fun hHeld => ?_)
      clear hK K
      try simp only [Act.put, List.setIfInBounds_toArray, List.set_cons_zero, List.set_cons_succ]
      clear HBX F0 F1 F2 F3 F4 F5
      refine takeL 15 ?_
      refine wpAnyH_ready (rs := [16]) (by kernel_rfl) (by simp) ?_
      refine AllReadyH.cons (o := _) rfl (fun K hK => ?_) AllReadyH.nil
      go_simp
      obtain ⟨W5, hW5⟩ : ∃ W5, W5 = w4.alloc (.cells #[.int .i64 u0, .int .i64 u1, .int .i64 u2, .int .i64 u3, .int .i64 u4, .slice a4 lu.length cap4] 147) := ⟨_, rfl⟩
      have hB5 : Below w4.heap.size w4 W5 := by rw [hW5]; exact belC (Below.refl _ _)
      have hw5 : W5.heap[w4.heap.size]? = some (.cells (InC.cells ⟨u0, u1, u2, u3, u4, a4, cap4, lu⟩).toArray 147) := by rw [hW5]; exact heap_alloc_new _ _
      rw [← hW5]
      have HBX := hB4.trans (hB5.mono hB4.size)
      have F0 := below_at HBX e0 hxl
      have F1 := below_at HBX e1 hxl
      have F2 := below_at HBX e2 hxl
      have F3 := below_at HBX e3 hxl
      have F4 := below_at HBX e4 hxl
      have F5 := below_at HBX e5 hxl
      try go_wp2_with fail
      refine hK _ _ ⟨F0, F1, F2, F3, F4, F5⟩ (fun hHeld => ?_)
      clear hK K
      try simp only [Act.put, List.setIfInBounds_toArray, List.set_cons_zero, List.set_cons_succ]
      clear F0 F1 F2 F3 F4 F5
      have hB05 : Below w.heap.size w W5 := HB'.out.trans ((HB1.out.mono HB'.out.size).drew.trans (HBX.mono (Nat.le_trans HB'.out.size HB1.out.size)))
      have hBr5 : Below wr.heap.size wr W5 := HB1.out.drew.trans (HBX.mono HB1.out.size)
      refine wpAnyH_ready (rs := [17]) (by kernel_rfl) (by simp) ?_
      refine AllReadyH.cons (o := _) rfl (fun K hK => ?_) AllReadyH.nil
      refine step_append_g (by rfl) (.tmp 16) (.tmp 32) 90 90 (by rfl) 147 j0 _ 64 Tryz.underlying90 hi hy0 hy1 hy2 (by rfl) (by rfl) (HG.out.mod (F := none') (Mod.of_below hBr5) (fun _ _ _ => id)) _ 1 (InC.cells ⟨u0, u1, u2, u3, u4, a4, cap4, lu⟩) (by rfl) (src_inc _ _ Tryz.underlying90 w4.heap.size _ 147 hw5 _) (by have := Hll.out; omega) (by have := Hll.out; omega) ?_
      intro a6 cap6 w6 hg6 hM6 hz6
      have hB6 : Below w.heap.size w w6 := hB05.trans (hM6.below_at hB05.size (fun k hk e => by have := (HR.out k e).1; omega))
      have hxR : ¬ R xb := fun e => by have := (HR.out xb e).2; have := HXB.out; omega
      have hRl : ∀ b, R b → b < wr.heap.size := fun b hb => (HR.out b hb).2
      have F0 := hM6.at (below_at HBX e0 hxl) hxR
      have F1 := hM6.at (below_at HBX e1 hxl) hxR
      have F2 := hM6.at (below_at HBX e2 hxl) hxR
      have F3 := hM6.at (below_at HBX e3 hxl) hxR
      have F4 := hM6.at (below_at HBX e4 hxl) hxR
      have F5 := hM6.at (below_at HBX e5 hxl) hxR
      have hzz : wr.heap.size < W2.heap.size ∧ W2.heap.size ≤ w4.heap.size ∧ w4.heap.size < W5.heap.size ∧ W5.heap.size ≤ w6.heap.size := ⟨by have := HZ1.out; omega, hM4.size, by rw [hW5]; simp, hM6.size⟩
      have HNEW : Hid (∃ R' : Nat → Prop, GRowAt w6 R' 6 (i + 1) cap6 a6 ((kk ++ [(⟨u0, u1, u2, u3, u4, a4, cap4, lu⟩ : InC)]).flatMap InC.cells) ∧ (∀ b, R' b → w.heap.size ≤ b ∧ b < w6.heap.size) ∧ (∀ x ∈ kk ++ [(⟨u0, u1, u2, u3, u4, a4, cap4, lu⟩ : InC)], PcOk w6 (fun b => w.heap.size ≤ b ∧ ¬ R' b) x)) := Lib.hid (by
        refine ⟨fun k => R k ∨ (k = W5.heap.size ∧ k < w6.heap.size), ?_, fun b hb => ?_, fun x hx => ?_⟩
        · rw [List.flatMap_append, show ([⟨u0, u1, u2, u3, u4, a4, cap4, lu⟩] : List InC).flatMap InC.cells = InC.cells ⟨u0, u1, u2, u3, u4, a4, cap4, lu⟩ from List.append_nil _]
          exact hg6.sub (fun k hk h => h.imp id (fun e => ⟨e, hk⟩))
        · rcases hb with hb | hb
          · have := HR.out b hb; omega
          · have := hB05.size; omega
        · rcases List.mem_append.1 hx with hx | hx
          · have h1 := HP.out x hx
            have h0 := h1.row.sub (T := fun b => (w.heap.size ≤ b ∧ ¬ R b) ∧ b < wr.heap.size) (fun b hb hb2 => ⟨hb2, hb⟩)
            have h2 := (h0.mod (F := none') (Mod.of_below hBr5) (fun _ _ _ => id)).mod hM6 (fun k hk _ hR => hk.1.2 hR)
            exact ⟨h2.sub (fun b _ hb2 => ⟨hb2.1.1, fun e => e.elim hb2.1.2 (fun e => by omega)⟩), h1.nil, h1.cap, h1.few⟩
          · rw [List.mem_singleton] at hx
            subst hx
            refine ⟨?_, fun e => rowNil9 hg4 e, ⟨hg4.le, hg4.max⟩, HPF.out⟩
            have h3 := (hg4.row.below' hB5).mod hM6 (fun k hk _ hR => hk.elim id (fun e => by have := hRl k hR; omega))
            exact h3.sub (fun b _ hb => hb.elim (fun e => e.elim) (fun e => ⟨by have := HB'.out.size; omega, fun e2 => e2.elim (fun hR => by have := hRl b hR; omega) (fun e3 => by omega)⟩)))
      try go_wp2_with fail
      refine hK _ _ ⟨F0, F1, F2, F3, F4, F5⟩ (fun hHeld => ?_)
      clear hK K
      try simp only [Act.put, List.setIfInBounds_toArray, List.set_cons_zero, List.set_cons_succ]
      refine takeL 18 ?_
      refine wpAnyH_done (by kernel_rfl) ?_ _
      clear hHeld F0 F1 F2 F3 F4 F5 hxR hRl HBX
      have HB6 := Lib.hid hB6
      clear hB6 hM6 hg6 hM4 hg4 hB4 hB5 hB05 hBr5 hw5 hB2 hB2' hz2 hz4 hz6 e0 e1 e2 e3 e4 e5 hxl hzz
      go_wp2_with fail
      go_roundg (l.length - (i + 1))
      case measure => exact hms
      case rel =>
        obtain ⟨R', n1, n2, n3⟩ := HNEW.out
        exact ⟨i + 1, a6, cap6, _, R', rfl, hlt'.out, by first | rfl | rw [hwr.out], rfl, n1, n2, n3, by rw [HT.out, List.map_append, List.map_append, HV.out]; rfl, HB6.out⟩
    · obtain rfl : i = l.length := by omega
      have hg := HG.out
      have hv := HV.out
      rw [List.take_length] at hv
      have hkl : kk.length = l.length := by simpa using congrArg List.length hv
      rw [← hkl] at hg
      go_wp2_with fail
      go_ret
      exact ⟨ao, cap, kk, by rw [hkl]; rfl, ⟨hg.row.sub (fun b _ hb => (HR.out b hb).1), fun x hx => ⟨(HP.out x hx).row.sub (fun b _ hb => hb.1), (HP.out x hx).nil, (HP.out x hx).cap, (HP.out x hx).few⟩⟩, hv, HB'.out⟩
end Go.Proofs.YtpiogibkleaaaaaGreatDoor
