import Derived.Test.YtajbooppoohplaaGreatDoorMac
import Derived.Test.YtajbooppoohplaaGreatDoorPkStB
import Derived.Test.YtajbooppoohplaaGreatDoorPkXm
/- package state: Apply, a record that is done -/
set_option maxRecDepth 100000
set_option maxHeartbeats 8000000
namespace Go.Proofs.YtajbooppoohplaaGreatDoor
open Go.RowKit Esch Go.Shelf

set_option linter.unusedSimpArgs false
theorem SttAt.onc {W : World} {b : Nat} {T : Nat → Prop} {s : StS} (h : SttAt W b T s) : ∃ ob mb, OnceAt W ob mb s.o ∧ ob ≠ mb ∧ W.cell? ⟨b, 2, none⟩ = some (.pointer (some ⟨ob, 0, none⟩)) ∧ T mb ∧ b ≠ mb ∧ ∀ W' o', OnceAt W' ob mb o' → Mod (· = mb) W W' → SttAt W' b T { s with o := o' } := by
 obtain ⟨sb, lt, tb, hb, ob, mb, S1, S2, hi, s1, s2, so, sm⟩ := h
 exact ⟨ob, mb, hi.on, hi.om, hi.c2, sm, hi.bm, fun W' o' ho hM => ⟨sb, fun k hk => Nat.lt_of_lt_of_le (lt k hk) hM.size, tb, hb, ob, mb, S1, S2, hi.once ho hM, s1, s2, so, sm⟩⟩
theorem apply_does (w : World) (b : Nat) (S : Nat → Prop) (s : StS) (h : SttAt w b S s) (hok : s.ok) (addr : Int) (text : ByteArray) (hts : text.size ≤ 9223372036854775807) (hf : FieldsAt w) (hS0 : ¬ S 0) (ha : addr = s.next) (ha2 : addr < 16384) (o : OpS) (mv : List Mv) (hdn : decOp text = some (o, mv)) (hse : oseen s.o o.client o.seq = false)
    (g : Nat) (hg : get doingsL o.kind = some g) (eg : ∀ args w, (callFunc g args).run Tryz.prog w = .ok (.enter g args) w) (d : RSt)
    (hdo : ∀ W mp mc, SttAt W b S { s with next := s.next + 1 } → OpIn W (o.withM mp mv.length mc) mv → Calls Tryz.prog g #[.pointer (some ⟨b, 0, none⟩), .int .i64 addr, opCells (o.withM mp mv.length mc)] W (DoesPost W b S d)) :
    Calls Tryz.prog 10 #[.pointer (some ⟨b, 0, none⟩), .int .i64 addr, .int .i64 1, .string text] w (APost w b S ((d.1, true, 0), { d.2 with o := (onote d.2.o o.client o.seq d.1).2 })) := by
 obtain ⟨sb, lt, tb, hb, ob, mb, S1, S2, hi, s1, s2, so, sm⟩ := h
 have hbl : b < w.heap.size := cell_lt hi.c0
 have e0 := hi.c0
 have e2 := hi.c2
 have e3 := hi.c3
 have g3 := hi.fz 3
 obtain ⟨W1, hW1⟩ : ∃ W1, W1 = w.alloc (.cells #[.int .i64 0, .int .i64 0] 36) := ⟨_, rfl⟩
 have hB1 : Below w.heap.size w W1 := by rw [hW1]; exact belC (Below.refl _ _)
 have hz1 : W1.heap.size = w.heap.size + 1 := by rw [hW1]; simp
 have HC : Hid (StCur w W1 b tb hb ob mb S S1 S2 s) := Lib.hid ⟨hi.mod (F := none') (Mod.of_below hB1) id id id (fun _ _ => id) (fun _ _ => id), Mod.of_below hB1, fun k hk => Or.inl (s1 k hk), s2, sb, so, sm, lt⟩
 have r0 : W1.cell? ⟨w.heap.size, 0, none⟩ = some (.int .i64 0) := by rw [hW1]; go_simp
 have r1 : W1.cell? ⟨w.heap.size, 1, none⟩ = some (.int .i64 0) := by rw [hW1]; go_simp
 have f0 : W1.frozen? ⟨w.heap.size, 0, none⟩ = false := by rw [hW1]; go_simp
 have f1 : W1.frozen? ⟨w.heap.size, 1, none⟩ = false := by rw [hW1]; go_simp
 have HW1 := Lib.hid hW1
 have hrl := cell_lt r0
 have NS1 : Hid (∀ k, w.heap.size ≤ k → k < w.heap.size + 1 → ¬ S1 k) := Lib.hid (fun k h1 h2 h => by have := lt k (s1 k h); omega)
 have NS0 := Lib.hid s1
 have NS2 : Hid (∀ k, w.heap.size ≤ k → ¬ S2 k) := Lib.hid (fun k h1 h => by have := lt k (s2 k h); omega)
 clear hi hW1 hB1 lt s1 s2 sb so sm
 obtain ⟨nx, hnx⟩ : ∃ nx, nx = s.next := ⟨_, rfl⟩
 have hn0 : 0 ≤ nx ∧ nx ≤ 16384 := by rw [hnx]; exact ⟨hok.n0, hok.n1⟩
 rw [← hnx] at e3 ha
 have ha' : (addr != nx) = false := by simpa using ha
 have hb' : decide (16384 ≤ addr) = false := decide_eq_false (by omega)
 have hwn : wrap64 (nx + 1) = nx + 1 := by unfold wrap64; omega
 obtain ⟨W2, hW2⟩ : ∃ W2, W2 = W1.setCell ⟨b, 3, none⟩ (.int .i64 (nx + 1)) := ⟨_, rfl⟩
 have nb : ¬ w.heap.size = b := by omega
 have HC2 : Hid (StCur w W2 b tb hb ob mb S S1 S2 { s with next := s.next + 1 }) := Lib.hid (by rw [hW2, hnx]; exact HC.out.nxt _)
 have r0 : W2.cell? ⟨w.heap.size, 0, none⟩ = some (.int .i64 0) := by rw [hW2]; go_simp
 have r1 : W2.cell? ⟨w.heap.size, 1, none⟩ = some (.int .i64 0) := by rw [hW2]; go_simp
 have f0 : W2.frozen? ⟨w.heap.size, 0, none⟩ = false := by rw [hW2]; go_simp
 have f1 : W2.frozen? ⟨w.heap.size, 1, none⟩ = false := by rw [hW2]; go_simp
 have hrl := cell_lt r0
 have hz2 : W2.heap.size = w.heap.size + 1 := by rw [hW2]; simp [hz1]
 have h02 : FieldsAt W2 := fun k hk => by
  exact mK120
 have hdec := decode_any W2 text hts h02 (by omega)
 have HF2 := Lib.hid h02
 have HW2 : Hid (W2 = (w.setCell ⟨b, 3, none⟩ (.int .i64 (nx + 1))).alloc (.cells #[.int .i64 0, .int .i64 0] 36)) := Lib.hid (by rw [hW2, HW1.out]; go_simp)
 clear hW2 hnx h02 ha
 rw [hdn] at hdec
 go_enter Tryz.func10, Tryz.ntmps10
 go_wp2_with fail
 rw [← HW2.out]
 refine hdec.mono ?_
 clear hdec
 rintro e W3 hd
 obtain ⟨hB3, mp, mc, rfl, hin3⟩ := hd
 obtain ⟨oc, os, ok, op, od, oz, oh, oo, ot, oi, on, om, ol, oq⟩ := o
 obtain ⟨ml, hml⟩ : ∃ ml, ml = mv.length := ⟨_, rfl⟩
 simp only [OpS.cells, OpS.withM] at hin3 ⊢
 rw [← hml] at hin3 ⊢
 have HML := Lib.hid hml
 have r0 := below_at hB3 r0 hrl
 have r1 := below_at hB3 r1 hrl
 have f0 := (hB3.frozen (p := ⟨w.heap.size, 0, none⟩) hrl).trans f0
 have f1 := (hB3.frozen (p := ⟨w.heap.size, 1, none⟩) hrl).trans f1
 have HC3 := Lib.hid (HC2.out.below hB3)
 have hz3 := hB3.size
 obtain ⟨W4, hW4⟩ : ∃ W4, W4 = W3.alloc (.cells #[.int .i64 oc, .int .i64 os, .int .i64 ok, .string (bs op), .string (bs od), .int .i64 oz, .int .i64 oh, .int .i64 oo, .string ot, .int .i64 oi, .int .i64 on, .slice mp ml mc] 31) := ⟨_, rfl⟩
 have hB4 : Below W3.heap.size W3 W4 := by rw [hW4]; exact belC (Below.refl _ _)
 have hrl3 := cell_lt r0
 have r0 := below_at hB4 r0 hrl3
 have r1 := below_at hB4 r1 hrl3
 have f0 := (hB4.frozen (p := ⟨w.heap.size, 0, none⟩) hrl3).trans f0
 have f1 := (hB4.frozen (p := ⟨w.heap.size, 1, none⟩) hrl3).trans f1
 have HC4 := Lib.hid (HC3.out.below hB4)
 have HIN4 := Lib.hid (hin3.below' hB4)
 have hz4 : W4.heap.size = W3.heap.size + 1 := by rw [hW4]; simp
 have c0 : W4.cell? ⟨W3.heap.size, 0, none⟩ = some (.int .i64 oc) := by rw [hW4]; go_simp
 have c1 : W4.cell? ⟨W3.heap.size, 1, none⟩ = some (.int .i64 os) := by rw [hW4]; go_simp
 have c2 : W4.cell? ⟨W3.heap.size, 2, none⟩ = some (.int .i64 ok) := by rw [hW4]; go_simp
 have c3 : W4.cell? ⟨W3.heap.size, 3, none⟩ = some (.string (bs op)) := by rw [hW4]; go_simp
 have c4 : W4.cell? ⟨W3.heap.size, 4, none⟩ = some (.string (bs od)) := by rw [hW4]; go_simp
 have c5 : W4.cell? ⟨W3.heap.size, 5, none⟩ = some (.int .i64 oz) := by rw [hW4]; go_simp
 have c6 : W4.cell? ⟨W3.heap.size, 6, none⟩ = some (.int .i64 oh) := by rw [hW4]; go_simp
 have c7 : W4.cell? ⟨W3.heap.size, 7, none⟩ = some (.int .i64 oo) := by rw [hW4]; go_simp
 have c8 : W4.cell? ⟨W3.heap.size, 8, none⟩ = some (.string ot) := by rw [hW4]; go_simp
 have c9 : W4.cell? ⟨W3.heap.size, 9, none⟩ = some (.int .i64 oi) := by rw [hW4]; go_simp
 have c10 : W4.cell? ⟨W3.heap.size, 10, none⟩ = some (.int .i64 on) := by rw [hW4]; go_simp
 have c11 : W4.cell? ⟨W3.heap.size, 11, none⟩ = some (.slice mp ml mc) := by rw [hW4]; go_simp
 have d2 : W4.cell? ⟨b, 2, none⟩ = some (.pointer (some ⟨ob, 0, none⟩)) := HC4.out.hi.c2
 have HW4 := Lib.hid hW4
 have hrl := cell_lt r0
 have hbl4 := cell_lt d2
 have hol4 := cell_lt c0
 clear hW4 hB4 hB3 HC3 HC2 hrl3 hin3 hml
 go_wp2_with fail
 rw [← HW4.out]
 refine wp_region_held_drew (S := fun W' => W'.cell? ⟨b, 2, none⟩ = some (.pointer (some ⟨ob, 0, none⟩)) ∧ W'.cell? ⟨W3.heap.size, 0, none⟩ = some (.int .i64 oc) ∧ W'.cell? ⟨W3.heap.size, 1, none⟩ = some (.int .i64 os)) (by kernel_rfl) ⟨d2, c0, c1⟩ (fun hHeld => ?_)
 refine takeL 0 ?_
 refine takeL 1 ?_
 refine takeL 2 ?_
 refine takeL 3 ?_
 refine takeL 4 ?_
 refine takeL 5 ?_
 refine takeL 6 ?_
 refine takeL 7 ?_
 refine takeL 8 ?_
 refine takeL 9 ?_
 refine takeL 10 ?_
 refine takeL 11 ?_
 refine takeL 12 ?_
 refine takeL 13 ?_
 refine takeL 14 ?_
 refine wpAnyH_ready (rs := [15]) (by kernel_rfl) (by simp) ?_
 refine AllReadyH.cons (o := _) rfl (fun K hK => ?_) AllReadyH.nil
 go_simp
 refine (onceSeen_any oc os _ ob mb s.o (HC4.out.hi.on.mod (F := none') ((Mod.refl none' _).drew) id id)).mono ?_
 rintro e W5 ⟨rfl, hw5⟩
 obtain rfl := hw5
 try go_wp2_with fail
 refine hK.out _ _ ⟨d2, c0, c1⟩ (fun hHeld => ?_)
 clear hK K
 try simp only [Act.put, List.setIfInBounds_toArray, List.set_cons_zero, List.set_cons_succ]
 refine takeL 16 ?_
 refine wpAnyH_done (by kernel_rfl) ?_ _
 clear hHeld
 have HC5 : Hid (StCur w W4.drew b tb hb ob mb S S1 S2 { s with next := s.next + 1 }) := Lib.hid (HC4.out.other (F := none') ((Mod.refl none' _).drew) (fun _ h => h.elim) (fun _ _ => id))
 go_wp2_with fail
 refine wp_region_held_drew (S := (fun W' => W'.cell? ⟨W3.heap.size, 0, none⟩ = some (.int .i64 oc) ∧ W'.cell? ⟨W3.heap.size, 1, none⟩ = some (.int .i64 os) ∧ W'.cell? ⟨W3.heap.size, 2, none⟩ = some (.int .i64 ok) ∧ W'.cell? ⟨W3.heap.size, 3, none⟩ = some (.string (bs op)) ∧ W'.cell? ⟨W3.heap.size, 4, none⟩ = some (.string (bs od)) ∧ W'.cell? ⟨W3.heap.size, 5, none⟩ = some (.int .i64 oz) ∧ W'.cell? ⟨W3.heap.size, 6, none⟩ = some (.int .i64 oh) ∧ W'.cell? ⟨W3.heap.size, 7, none⟩ = some (.int .i64 oo) ∧ W'.cell? ⟨W3.heap.size, 8, none⟩ = some (.string ot) ∧ W'.cell? ⟨W3.heap.size, 9, none⟩ = some (.int .i64 oi) ∧ W'.cell? ⟨W3.heap.size, 10, none⟩ = some (.int .i64 on) ∧ W'.cell? ⟨W3.heap.size, 11, none⟩ = some (.slice mp ml mc))) (by kernel_rfl) ⟨c0, c1, c2, c3, c4, c5, c6, c7, c8, c9, c10, c11⟩ (fun hHeld => ?_)
 obtain ⟨U0, hU0⟩ : ∃ U0, U0 = W4.drew.drew := ⟨_, rfl⟩
 refine takeL 1 ?_
 refine takeL 2 ?_
 refine takeL 4 ?_
 refine takeL 5 ?_
 refine takeL 6 ?_
 have hMD : Mod none' W4 U0 := by rw [hU0]; exact ((Mod.refl none' _).drew).drew
 have hBd0 : Below W4.heap.size W4 U0 := hMD.below
 have c0 := below_at hBd0 c0 hol4
 have c1 := below_at hBd0 c1 hol4
 have c2 := below_at hBd0 c2 hol4
 have c3 := below_at hBd0 c3 hol4
 have c4 := below_at hBd0 c4 hol4
 have c5 := below_at hBd0 c5 hol4
 have c6 := below_at hBd0 c6 hol4
 have c7 := below_at hBd0 c7 hol4
 have c8 := below_at hBd0 c8 hol4
 have c9 := below_at hBd0 c9 hol4
 have c10 := below_at hBd0 c10 hol4
 have c11 := below_at hBd0 c11 hol4
 have r0 := below_at hBd0 r0 hrl
 have r1 := below_at hBd0 r1 hrl
 have f0 := (hBd0.frozen (p := ⟨w.heap.size, 0, none⟩) hrl).trans f0
 have f1 := (hBd0.frozen (p := ⟨w.heap.size, 1, none⟩) hrl).trans f1
 have HSt : Hid (SttAt U0 b S { s with next := s.next + 1 }) := Lib.hid (SttAt.below' ⟨HC4.out.sb, fun k hk => Nat.lt_of_lt_of_le (HC4.out.lt k hk) (by omega), tb, hb, ob, mb, S1, S2, HC4.out.hi, NS0.out, HC4.out.s2, HC4.out.so, HC4.out.sm⟩ hBd0)
 have HMo : Hid (Mod S w U0) := Lib.hid (HC4.out.mod.trans (Mod.of_below hBd0))
 have HIN := Lib.hid (HIN4.out.below' hBd0)
 have NS : Hid (∀ k, w.heap.size ≤ k → ¬ S k) := Lib.hid (fun k h1 h => by have := HC4.out.lt k h; omega)
 have HLT : Hid (∀ k, S k → k < w.heap.size) := Lib.hid HC4.out.lt
 have npS : ¬ S W3.heap.size := NS.out _ (by omega)
 have nwS : ¬ S w.heap.size := NS.out _ (Nat.le_refl _)
 have hol4 := cell_lt c0
 have hrl := cell_lt r0
 have hz0 : W4.heap.size ≤ U0.heap.size := by rw [hU0]; exact Nat.le_refl _
 have hz4' : W3.heap.size < W4.heap.size := by omega
 rw [← hU0] at hHeld ⊢
 have hdo := fun W h1 h2 => hdo W mp mc h1 (by rw [← HML.out]; exact h2)
 simp only [opCells, OpS.cells, OpS.withM] at hdo
 rw [← HML.out] at hdo
 clear hMD hBd0 hU0 HC4 HC5 HIN4 d2 hz4
 refine wpAnyH_ready (rs := [0, 8]) (by kernel_rfl) (by simp) ?_
 refine AllReadyH.cons (o := _) rfl (fun K hK => ?_) (AllReadyH.cons (o := _) rfl (fun K hK => ?_) AllReadyH.nil)
 · go_simp
   refine (doings_any _).mono ?_
   rintro e U1 ⟨dm, rfl, hmp, hBd'⟩
   have hBd : Below U0.heap.size U0 U1 := ⟨hBd'.os, hBd'.tape, hBd'.output, hBd'.size, hBd'.block⟩
   have HMP := Lib.hid hmp
   have c0 := below_at hBd c0 hol4
   have c1 := below_at hBd c1 hol4
   have c2 := below_at hBd c2 hol4
   have c3 := below_at hBd c3 hol4
   have c4 := below_at hBd c4 hol4
   have c5 := below_at hBd c5 hol4
   have c6 := below_at hBd c6 hol4
   have c7 := below_at hBd c7 hol4
   have c8 := below_at hBd c8 hol4
   have c9 := below_at hBd c9 hol4
   have c10 := below_at hBd c10 hol4
   have c11 := below_at hBd c11 hol4
   have r0 := below_at hBd r0 hrl
   have f0 := (hBd.frozen (p := ⟨w.heap.size, 0, none⟩) hrl).trans f0
   have r1 := below_at hBd r1 hrl
   have f1 := (hBd.frozen (p := ⟨w.heap.size, 1, none⟩) hrl).trans f1
   have HSt := Lib.hid (HSt.out.below' hBd)
   have HMo := Lib.hid (HMo.out.trans (Mod.of_below hBd))
   have HIN := Lib.hid (HIN.out.below' hBd)
   have hzd := hBd.size
   have hol4 := cell_lt c0
   have hrl := cell_lt r0
   clear hmp hBd hBd'
   try go_wp2_with fail
   refine hK.out _ _ ⟨c0, c1, c2, c3, c4, c5, c6, c7, c8, c9, c10, c11⟩ (fun hHeld => ?_)
   clear hK K
   try simp only [Act.put, List.setIfInBounds_toArray, List.set_cons_zero, List.set_cons_succ]
   refine wpAnyH_ready (rs := [3, 8]) (by kernel_rfl) (by simp) ?_
   refine AllReadyH.cons (o := _) rfl (fun K hK => ?_) (AllReadyH.cons (o := _) rfl (fun K hK => ?_) AllReadyH.nil)
   · go_simp
     have hlk := doings_look HMP.out ok g hg
     go_simp
     try go_wp2_with fail
     refine hK.out _ _ ⟨c0, c1, c2, c3, c4, c5, c6, c7, c8, c9, c10, c11⟩ (fun hHeld => ?_)
     clear hK K
     try simp only [Act.put, List.setIfInBounds_toArray, List.set_cons_zero, List.set_cons_succ]
     clear hlk
     refine wpAnyH_ready (rs := [7, 8]) (by kernel_rfl) (by simp) ?_
     refine AllReadyH.cons (o := _) rfl (fun K hK => ?_) (AllReadyH.cons (o := _) rfl (fun K hK => ?_) AllReadyH.nil)
     · go_simp
       refine (hdo U1 HSt.out HIN.out).mono ?_
       rintro e U2 ⟨rfl, hSv, hMv⟩
       have c0 := hMv.at c0 npS
       have c1 := hMv.at c1 npS
       have c2 := hMv.at c2 npS
       have c3 := hMv.at c3 npS
       have c4 := hMv.at c4 npS
       have c5 := hMv.at c5 npS
       have c6 := hMv.at c6 npS
       have c7 := hMv.at c7 npS
       have c8 := hMv.at c8 npS
       have c9 := hMv.at c9 npS
       have c10 := hMv.at c10 npS
       have c11 := hMv.at c11 npS
       have r0 := hMv.at r0 nwS
       have f0 := (hMv.frozen (p := ⟨w.heap.size, 0, none⟩) hrl nwS).trans f0
       have r1 := hMv.at r1 nwS
       have f1 := (hMv.frozen (p := ⟨w.heap.size, 1, none⟩) hrl nwS).trans f1
       have HSv := Lib.hid hSv
       have HMo := Lib.hid (HMo.out.trans hMv)
       have NT : Hid (∀ k, w.heap.size ≤ k → k < U1.heap.size → ¬ growI S U1 U2 k) := Lib.hid (fun k h1 h2 h => h.elim (NS.out k h1) (fun h => by omega))
       have hzc := hMv.size
       have hol4 := cell_lt c0
       have hrl := cell_lt r0
       clear hSv hMv
       try go_wp2_with fail
       refine hK.out _ _ ⟨c0, c1, c2, c3, c4, c5, c6, c7, c8, c9, c10, c11⟩ (fun hHeld => ?_)
       clear hK K
       try simp only [Act.put, List.setIfInBounds_toArray, List.set_cons_zero, List.set_cons_succ]
       refine wpAnyH_ready (rs := [8]) (by kernel_rfl) (by simp) ?_
       refine AllReadyH.cons (o := _) rfl (fun K hK => ?_) AllReadyH.nil
       go_simp
       obtain ⟨U3, hAv⟩ : ∃ U3, U3 = U2.alloc (.cells #[.int .i64 0, .int .i64 0] 36) := ⟨_, rfl⟩
       obtain ⟨rb, hrb⟩ : ∃ rb, rb = U2.heap.size := ⟨_, rfl⟩
       have hBa : Below U2.heap.size U2 U3 := by rw [hAv]; exact belC (Below.refl _ _)
       have x0 : U3.cell? ⟨rb, 0, none⟩ = some (.int .i64 0) := by rw [hAv, hrb]; go_simp
       have x1 : U3.cell? ⟨rb, 1, none⟩ = some (.int .i64 0) := by rw [hAv, hrb]; go_simp
       have y0 : U3.frozen? ⟨rb, 0, none⟩ = false := by rw [hAv, hrb]; go_simp
       have y1 : U3.frozen? ⟨rb, 1, none⟩ = false := by rw [hAv, hrb]; go_simp
       have c0 := below_at hBa c0 hol4
       have c1 := below_at hBa c1 hol4
       have c2 := below_at hBa c2 hol4
       have c3 := below_at hBa c3 hol4
       have c4 := below_at hBa c4 hol4
       have c5 := below_at hBa c5 hol4
       have c6 := below_at hBa c6 hol4
       have c7 := below_at hBa c7 hol4
       have c8 := below_at hBa c8 hol4
       have c9 := below_at hBa c9 hol4
       have c10 := below_at hBa c10 hol4
       have c11 := below_at hBa c11 hol4
       have r0 := below_at hBa r0 hrl
       have f0 := (hBa.frozen (p := ⟨w.heap.size, 0, none⟩) hrl).trans f0
       have r1 := below_at hBa r1 hrl
       have f1 := (hBa.frozen (p := ⟨w.heap.size, 1, none⟩) hrl).trans f1
       have HSv := Lib.hid (HSv.out.below' hBa)
       have HMo := Lib.hid (HMo.out.trans (Mod.of_below hBa))
       have hza := hBa.size
       have HRB := Lib.hid hrb
       have hrb1 : W4.heap.size ≤ rb := by rw [hrb]; omega
       have nxS : ¬ S rb := NS.out rb (by omega)
       have hol4 := cell_lt c0
       have hrl := cell_lt r0
       have hxl := cell_lt x0
       go_simp
       rw [← hAv, ← hrb]
       clear hAv hrb hBa
       try go_wp2_with fail
       refine hK.out _ _ ⟨c0, c1, c2, c3, c4, c5, c6, c7, c8, c9, c10, c11⟩ (fun hHeld => ?_)
       clear hK K
       try simp only [Act.put, List.setIfInBounds_toArray, List.set_cons_zero, List.set_cons_succ]
       refine wpAnyH_ready (rs := [9]) (by kernel_rfl) (by simp) ?_
       refine AllReadyH.cons (o := _) rfl (fun K hK => ?_) AllReadyH.nil
       go_simp
       obtain ⟨X, hX⟩ : ∃ X, X = (U3.setCell ⟨rb, 0, none⟩ (.int .i64 d.1.1)).setCell ⟨rb, 1, none⟩ (.int .i64 d.1.2) := ⟨_, rfl⟩
       have nrT : ¬ growI S U1 U2 rb := (fun h => h.elim (NS.out rb (by omega)) (fun h => by have := HRB.out; omega))
       exact mK127
     · go_simp
       obtain ⟨U2, hAv⟩ : ∃ U2, U2 = U1.alloc (.cells #[.int .i64 0, .int .i64 0] 36) := ⟨_, rfl⟩
       obtain ⟨rb, hrb⟩ : ∃ rb, rb = U1.heap.size := ⟨_, rfl⟩
       have hBa : Below U1.heap.size U1 U2 := by rw [hAv]; exact belC (Below.refl _ _)
       have x0 : U2.cell? ⟨rb, 0, none⟩ = some (.int .i64 0) := by rw [hAv, hrb]; go_simp
       have x1 : U2.cell? ⟨rb, 1, none⟩ = some (.int .i64 0) := by rw [hAv, hrb]; go_simp
       have y0 : U2.frozen? ⟨rb, 0, none⟩ = false := by rw [hAv, hrb]; go_simp
       have y1 : U2.frozen? ⟨rb, 1, none⟩ = false := by rw [hAv, hrb]; go_simp
       have c0 := below_at hBa c0 hol4
       have c1 := below_at hBa c1 hol4
       have c2 := below_at hBa c2 hol4
       have c3 := below_at hBa c3 hol4
       have c4 := below_at hBa c4 hol4
       have c5 := below_at hBa c5 hol4
       have c6 := below_at hBa c6 hol4
       have c7 := below_at hBa c7 hol4
       have c8 := below_at hBa c8 hol4
       have c9 := below_at hBa c9 hol4
       have c10 := below_at hBa c10 hol4
       have c11 := below_at hBa c11 hol4
       have r0 := below_at hBa r0 hrl
       have f0 := (hBa.frozen (p := ⟨w.heap.size, 0, none⟩) hrl).trans f0
       have r1 := below_at hBa r1 hrl
       have f1 := (hBa.frozen (p := ⟨w.heap.size, 1, none⟩) hrl).trans f1
       have HSt := Lib.hid (HSt.out.below' hBa)
       have HIN := Lib.hid (HIN.out.below' hBa)
       have HMo := Lib.hid (HMo.out.trans (Mod.of_below hBa))
       have HMP := Lib.hid (HMP.out.mod (F := none') (Mod.of_below hBa) id)
       have hza := hBa.size
       have HRB := Lib.hid hrb
       have hrb1 : W4.heap.size ≤ rb := by rw [hrb]; omega
       have nxS : ¬ S rb := NS.out rb (by omega)
       have hol4 := cell_lt c0
       have hrl := cell_lt r0
       have hxl := cell_lt x0
       go_simp
       rw [← hAv, ← hrb]
       clear hAv hrb hBa
       try go_wp2_with fail
       refine hK.out _ _ ⟨c0, c1, c2, c3, c4, c5, c6, c7, c8, c9, c10, c11⟩ (fun hHeld => ?_)
       clear hK K
       try simp only [Act.put, List.setIfInBounds_toArray, List.set_cons_zero, List.set_cons_succ]
       exact mK128
   · go_simp
     obtain ⟨U2, hAv⟩ : ∃ U2, U2 = U1.alloc (.cells #[.int .i64 0, .int .i64 0] 36) := ⟨_, rfl⟩
     obtain ⟨rb, hrb⟩ : ∃ rb, rb = U1.heap.size := ⟨_, rfl⟩
     have hBa : Below U1.heap.size U1 U2 := by rw [hAv]; exact belC (Below.refl _ _)
     have x0 : U2.cell? ⟨rb, 0, none⟩ = some (.int .i64 0) := by rw [hAv, hrb]; go_simp
     have x1 : U2.cell? ⟨rb, 1, none⟩ = some (.int .i64 0) := by rw [hAv, hrb]; go_simp
     have y0 : U2.frozen? ⟨rb, 0, none⟩ = false := by rw [hAv, hrb]; go_simp
     have y1 : U2.frozen? ⟨rb, 1, none⟩ = false := by rw [hAv, hrb]; go_simp
     have c0 := below_at hBa c0 hol4
     have c1 := below_at hBa c1 hol4
     have c2 := below_at hBa c2 hol4
     have c3 := below_at hBa c3 hol4
     have c4 := below_at hBa c4 hol4
     have c5 := below_at hBa c5 hol4
     have c6 := below_at hBa c6 hol4
     have c7 := below_at hBa c7 hol4
     have c8 := below_at hBa c8 hol4
     have c9 := below_at hBa c9 hol4
     have c10 := below_at hBa c10 hol4
     have c11 := below_at hBa c11 hol4
     have r0 := below_at hBa r0 hrl
     have f0 := (hBa.frozen (p := ⟨w.heap.size, 0, none⟩) hrl).trans f0
     have r1 := below_at hBa r1 hrl
     have f1 := (hBa.frozen (p := ⟨w.heap.size, 1, none⟩) hrl).trans f1
     have HSt := Lib.hid (HSt.out.below' hBa)
     have HIN := Lib.hid (HIN.out.below' hBa)
     have HMo := Lib.hid (HMo.out.trans (Mod.of_below hBa))
     have HMP := Lib.hid (HMP.out.mod (F := none') (Mod.of_below hBa) id)
     have hza := hBa.size
     have HRB := Lib.hid hrb
     have hrb1 : W4.heap.size ≤ rb := by rw [hrb]; omega
     have nxS : ¬ S rb := NS.out rb (by omega)
     have hol4 := cell_lt c0
     have hrl := cell_lt r0
     have hxl := cell_lt x0
     go_simp
     rw [← hAv, ← hrb]
     clear hAv hrb hBa
     try go_wp2_with fail
     refine hK.out _ _ ⟨c0, c1, c2, c3, c4, c5, c6, c7, c8, c9, c10, c11⟩ (fun hHeld => ?_)
     clear hK K
     try simp only [Act.put, List.setIfInBounds_toArray, List.set_cons_zero, List.set_cons_succ]
     refine wpAnyH_ready (rs := [3]) (by kernel_rfl) (by simp) ?_
     refine AllReadyH.cons (o := _) rfl (fun K hK => ?_) AllReadyH.nil
     go_simp
     have hlk := doings_look HMP.out ok g hg
     go_simp
     try go_wp2_with fail
     refine hK.out _ _ ⟨c0, c1, c2, c3, c4, c5, c6, c7, c8, c9, c10, c11⟩ (fun hHeld => ?_)
     clear hK K
     try simp only [Act.put, List.setIfInBounds_toArray, List.set_cons_zero, List.set_cons_succ]
     clear hlk
     exact mK128
 · go_simp
   obtain ⟨U1, hAv⟩ : ∃ U1, U1 = U0.alloc (.cells #[.int .i64 0, .int .i64 0] 36) := ⟨_, rfl⟩
   obtain ⟨rb, hrb⟩ : ∃ rb, rb = U0.heap.size := ⟨_, rfl⟩
   have hBa : Below U0.heap.size U0 U1 := by rw [hAv]; exact belC (Below.refl _ _)
   have x0 : U1.cell? ⟨rb, 0, none⟩ = some (.int .i64 0) := by rw [hAv, hrb]; go_simp
   have x1 : U1.cell? ⟨rb, 1, none⟩ = some (.int .i64 0) := by rw [hAv, hrb]; go_simp
   have y0 : U1.frozen? ⟨rb, 0, none⟩ = false := by rw [hAv, hrb]; go_simp
   have y1 : U1.frozen? ⟨rb, 1, none⟩ = false := by rw [hAv, hrb]; go_simp
   have c0 := below_at hBa c0 hol4
   have c1 := below_at hBa c1 hol4
   have c2 := below_at hBa c2 hol4
   have c3 := below_at hBa c3 hol4
   have c4 := below_at hBa c4 hol4
   have c5 := below_at hBa c5 hol4
   have c6 := below_at hBa c6 hol4
   have c7 := below_at hBa c7 hol4
   have c8 := below_at hBa c8 hol4
   have c9 := below_at hBa c9 hol4
   have c10 := below_at hBa c10 hol4
   have c11 := below_at hBa c11 hol4
   have r0 := below_at hBa r0 hrl
   have f0 := (hBa.frozen (p := ⟨w.heap.size, 0, none⟩) hrl).trans f0
   have r1 := below_at hBa r1 hrl
   have f1 := (hBa.frozen (p := ⟨w.heap.size, 1, none⟩) hrl).trans f1
   have HSt := Lib.hid (HSt.out.below' hBa)
   have HIN := Lib.hid (HIN.out.below' hBa)
   have HMo := Lib.hid (HMo.out.trans (Mod.of_below hBa))
   have hza := hBa.size
   have HRB := Lib.hid hrb
   have hrb1 : W4.heap.size ≤ rb := by rw [hrb]; omega
   have nxS : ¬ S rb := NS.out rb (by omega)
   have hol4 := cell_lt c0
   have hrl := cell_lt r0
   have hxl := cell_lt x0
   go_simp
   rw [← hAv, ← hrb]
   clear hAv hrb hBa
   try go_wp2_with fail
   refine hK.out _ _ ⟨c0, c1, c2, c3, c4, c5, c6, c7, c8, c9, c10, c11⟩ (fun hHeld => ?_)
   clear hK K
   try simp only [Act.put, List.setIfInBounds_toArray, List.set_cons_zero, List.set_cons_succ]
   refine wpAnyH_ready (rs := [0]) (by kernel_rfl) (by simp) ?_
   refine AllReadyH.cons (o := _) rfl (fun K hK => ?_) AllReadyH.nil
   go_simp
   refine (doings_any _).mono ?_
   rintro e U2 ⟨dm, rfl, hmp, hBd'⟩
   have hBd : Below U1.heap.size U1 U2 := ⟨hBd'.os, hBd'.tape, hBd'.output, hBd'.size, hBd'.block⟩
   have HMP := Lib.hid hmp
   have c0 := below_at hBd c0 hol4
   have c1 := below_at hBd c1 hol4
   have c2 := below_at hBd c2 hol4
   have c3 := below_at hBd c3 hol4
   have c4 := below_at hBd c4 hol4
   have c5 := below_at hBd c5 hol4
   have c6 := below_at hBd c6 hol4
   have c7 := below_at hBd c7 hol4
   have c8 := below_at hBd c8 hol4
   have c9 := below_at hBd c9 hol4
   have c10 := below_at hBd c10 hol4
   have c11 := below_at hBd c11 hol4
   have r0 := below_at hBd r0 hrl
   have f0 := (hBd.frozen (p := ⟨w.heap.size, 0, none⟩) hrl).trans f0
   have r1 := below_at hBd r1 hrl
   have f1 := (hBd.frozen (p := ⟨w.heap.size, 1, none⟩) hrl).trans f1
   have x0 := below_at hBd x0 hxl
   have y0 := (hBd.frozen (p := ⟨rb, 0, none⟩) hxl).trans y0
   have x1 := below_at hBd x1 hxl
   have y1 := (hBd.frozen (p := ⟨rb, 1, none⟩) hxl).trans y1
   have HSt := Lib.hid (HSt.out.below' hBd)
   have HMo := Lib.hid (HMo.out.trans (Mod.of_below hBd))
   have HIN := Lib.hid (HIN.out.below' hBd)
   have hzd := hBd.size
   have hol4 := cell_lt c0
   have hrl := cell_lt r0
   have hxl := cell_lt x0
   clear hmp hBd hBd'
   try go_wp2_with fail
   refine hK.out _ _ ⟨c0, c1, c2, c3, c4, c5, c6, c7, c8, c9, c10, c11⟩ (fun hHeld => ?_)
   clear hK K
   try simp only [Act.put, List.setIfInBounds_toArray, List.set_cons_zero, List.set_cons_succ]
   refine wpAnyH_ready (rs := [3]) (by kernel_rfl) (by simp) ?_
   refine AllReadyH.cons (o := _) rfl (fun K hK => ?_) AllReadyH.nil
   go_simp
   have hlk := doings_look HMP.out ok g hg
   go_simp
   try go_wp2_with fail
   refine hK.out _ _ ⟨c0, c1, c2, c3, c4, c5, c6, c7, c8, c9, c10, c11⟩ (fun hHeld => ?_)
   clear hK K
   try simp only [Act.put, List.setIfInBounds_toArray, List.set_cons_zero, List.set_cons_succ]
   clear hlk
   refine wpAnyH_ready (rs := [7]) (by kernel_rfl) (by simp) ?_
   refine AllReadyH.cons (o := _) rfl (fun K hK => ?_) AllReadyH.nil
   go_simp
   refine (hdo U2 HSt.out HIN.out).mono ?_
   rintro e U3 ⟨rfl, hSv, hMv⟩
   have c0 := hMv.at c0 npS
   have c1 := hMv.at c1 npS
   have c2 := hMv.at c2 npS
   have c3 := hMv.at c3 npS
   have c4 := hMv.at c4 npS
   have c5 := hMv.at c5 npS
   have c6 := hMv.at c6 npS
   have c7 := hMv.at c7 npS
   have c8 := hMv.at c8 npS
   have c9 := hMv.at c9 npS
   have c10 := hMv.at c10 npS
   have c11 := hMv.at c11 npS
   have r0 := hMv.at r0 nwS
   have f0 := (hMv.frozen (p := ⟨w.heap.size, 0, none⟩) hrl nwS).trans f0
   have r1 := hMv.at r1 nwS
   have f1 := (hMv.frozen (p := ⟨w.heap.size, 1, none⟩) hrl nwS).trans f1
   have x0 := hMv.at x0 nxS
   have y0 := (hMv.frozen (p := ⟨rb, 0, none⟩) hxl nxS).trans y0
   have x1 := hMv.at x1 nxS
   have y1 := (hMv.frozen (p := ⟨rb, 1, none⟩) hxl nxS).trans y1
   have HSv := Lib.hid hSv
   have HMo := Lib.hid (HMo.out.trans hMv)
   have NT : Hid (∀ k, w.heap.size ≤ k → k < U2.heap.size → ¬ growI S U2 U3 k) := Lib.hid (fun k h1 h2 h => h.elim (NS.out k h1) (fun h => by omega))
   have hzc := hMv.size
   have hol4 := cell_lt c0
   have hrl := cell_lt r0
   have hxl := cell_lt x0
   clear hSv hMv
   try go_wp2_with fail
   refine hK.out _ _ ⟨c0, c1, c2, c3, c4, c5, c6, c7, c8, c9, c10, c11⟩ (fun hHeld => ?_)
   clear hK K
   try simp only [Act.put, List.setIfInBounds_toArray, List.set_cons_zero, List.set_cons_succ]
   refine wpAnyH_ready (rs := [9]) (by kernel_rfl) (by simp) ?_
   refine AllReadyH.cons (o := _) rfl (fun K hK => ?_) AllReadyH.nil
   go_simp
   obtain ⟨X, hX⟩ : ∃ X, X = (U3.setCell ⟨rb, 0, none⟩ (.int .i64 d.1.1)).setCell ⟨rb, 1, none⟩ (.int .i64 d.1.2) := ⟨_, rfl⟩
   have nrT : ¬ growI S U2 U3 rb := NT.out rb (by omega) (by omega)
   have nwT := NT.out w.heap.size (Nat.le_refl _) (by omega)
   have npT := NT.out W3.heap.size (by omega) (by omega)
   have hpr : ¬ W3.heap.size = rb := by omega
   have hwr : ¬ w.heap.size = rb := by omega
   have hMX : Mod (· = rb) U3 X := by rw [hX]; exact ((Mod.refl (· = rb) U3).setCellAt (fun _ => rfl) _).setCellAt (fun _ => rfl) _
   have hzX := hMX.size
   have HSX := Lib.hid (HSv.out.mod hMX (fun k hk e => nrT (by rw [← e]; exact hk)))
   have HMX := Lib.hid (HMo.out.trans' hMX (fun k hk e => by have e : k = rb := e; omega))
   have q0 := hMX.at c0 hpr
   have q1 := hMX.at c1 hpr
   have q2 := hMX.at c2 hpr
   have q3 := hMX.at c3 hpr
   have q4 := hMX.at c4 hpr
   have q5 := hMX.at c5 hpr
   have q6 := hMX.at c6 hpr
   have q7 := hMX.at c7 hpr
   have q8 := hMX.at c8 hpr
   have q9 := hMX.at c9 hpr
   have q10 := hMX.at c10 hpr
   have q11 := hMX.at c11 hpr
   have r0 := hMX.at r0 hwr
   have f0 := (hMX.frozen (p := ⟨w.heap.size, 0, none⟩) hrl hwr).trans f0
   have r1 := hMX.at r1 hwr
   have f1 := (hMX.frozen (p := ⟨w.heap.size, 1, none⟩) hrl hwr).trans f1
   have x0' : X.cell? ⟨rb, 0, none⟩ = some (.int .i64 d.1.1) := by rw [hX]; go_simp
   have x1' : X.cell? ⟨rb, 1, none⟩ = some (.int .i64 d.1.2) := by rw [hX]; go_simp
   exact mK126
end Go.Proofs.YtajbooppoohplaaGreatDoor
/- package state: Apply, whole (but for moves) -/
namespace Go.Proofs.YtajbooppoohplaaGreatDoor
open Go.RowKit Esch Go.Shelf

theorem decOp_known {text : ByteArray} {r : OpS × List Mv} (h : decOp text = some r) : 0 < r.1.kind ∧ r.1.kind < 15 := by
 unfold decOp at h
 split at h
 · cases h
 split at h
 · rename_i hg
   cases h
   unfold goodV OpS.good at hg
   simp only [Bool.and_eq_true] at hg
   have h2 : knownB (decRaw text).1.1.kind = true := hg.1.1.1.1
   simpa [knownB] using h2
 · cases h
theorem stApply1_any (w : World) (b : Nat) (S : Nat → Prop) (s : StS) (h : SttAt w b S s) (hok : s.ok) (addr kind : Int) (text : ByteArray) (hts : text.size ≤ 9223372036854775807) (hf : FieldsAt w) (hS0 : ¬ S 0) (h13 : ∀ r, decOp text = some r → r.1.kind = 1) :
    Calls Tryz.prog 10 #[.pointer (some ⟨b, 0, none⟩), .int .i64 addr, .int .i64 kind, .string text] w (APost w b S (s.apply addr kind text)) := by
 unfold StS.apply
 by_cases hc : addr ≠ s.next ∨ 16384 ≤ addr ∨ (kind ≠ 1 ∧ kind ≠ 2)
 · exact mK130
 rw [if_neg hc]
 have ha : addr = s.next := Classical.not_not.1 fun h => hc (Or.inl h)
 have ha2 : addr < 16384 := by omega
 by_cases hk : kind = 2
 · exact mK129
 rw [if_neg hk]
 have hk1 : kind = 1 := by omega
 subst hk1
 cases hd : decOp text with
 | none =>
   exact apply_none w b S s h hok addr text hts hf hS0 ha ha2 hd
 | some r =>
   obtain ⟨o, mv⟩ := r
   simp only
   by_cases hs : oseen s.o o.client o.seq = true
   · rw [if_pos hs]
     exact apply_seen w b S s h hok addr text hts hf hS0 ha ha2 o mv hd hs
   · rw [if_neg hs]
     have hs : oseen s.o o.client o.seq = false := by simpa using hs
     have hkn := decOp_known hd
     have hk13 := h13 _ hd
     simp only at hkn hk13
     have hl : s.h.m.length ≤ 100000 := by have := hok.hl; have := hok.n1; omega
     obtain ⟨s1, hs1⟩ : ∃ s1 : StS, s1 = { s with next := s.next + 1 } := ⟨_, rfl⟩
     have ht1 : s1.t = s.t := by rw [hs1]
     have hh1 : s1.h = s.h := by rw [hs1]
     rw [← hs1]
     have hcore := fun g hg eg d hdo => apply_does w b S s h hok addr text hts hf hS0 ha ha2 o mv hd hs g hg eg d hdo
     rw [← hs1] at hcore
     have h := hk13
     rw [show s1.does o mv addr = s1.tr ((s1.t.mk' o.path 1).run s1.t) by unfold StS.does; simp only [h]; rfl]
     exact hcore 75 (by rw [h]; rfl) (enters_of Tryz.func75 (by kernel_rfl) rfl) _ (fun W mp mc hW hin => name1_any W b S s1 hW (by rw [ht1]; exact hok.t) addr (o.withM mp mv.length mc) h)
theorem stApply_any (w : World) (b : Nat) (S : Nat → Prop) (s : StS) (h : SttAt w b S s) (hok : s.ok) (addr kind : Int) (text : ByteArray) (hts : text.size ≤ 9223372036854775807) (hf : FieldsAt w) (hS0 : ¬ S 0) (h13 : ∀ r, decOp text = some r → r.1.kind ≠ 13) :
    Calls Tryz.prog 10 #[.pointer (some ⟨b, 0, none⟩), .int .i64 addr, .int .i64 kind, .string text] w (APost w b S (s.apply addr kind text)) := by
 unfold StS.apply
 by_cases hc : addr ≠ s.next ∨ 16384 ≤ addr ∨ (kind ≠ 1 ∧ kind ≠ 2)
 · exact mK130
 rw [if_neg hc]
 have ha : addr = s.next := Classical.not_not.1 fun h => hc (Or.inl h)
 have ha2 : addr < 16384 := by omega
 by_cases hk : kind = 2
 · exact mK129
 rw [if_neg hk]
 have hk1 : kind = 1 := by omega
 subst hk1
 cases hd : decOp text with
 | none =>
   exact apply_none w b S s h hok addr text hts hf hS0 ha ha2 hd
 | some r =>
   obtain ⟨o, mv⟩ := r
   simp only
   by_cases hs : oseen s.o o.client o.seq = true
   · rw [if_pos hs]
     exact apply_seen w b S s h hok addr text hts hf hS0 ha ha2 o mv hd hs
   · rw [if_neg hs]
     have hs : oseen s.o o.client o.seq = false := by simpa using hs
     have hkn := decOp_known hd
     have hk13 := h13 _ hd
     simp only at hkn hk13
     have hl : s.h.m.length ≤ 100000 := by have := hok.hl; have := hok.n1; omega
     have h14 : o.kind = 1 ∨ o.kind = 2 ∨ o.kind = 3 ∨ o.kind = 4 ∨ o.kind = 5 ∨ o.kind = 6 ∨ o.kind = 7 ∨ o.kind = 8 ∨ o.kind = 9 ∨ o.kind = 10 ∨ o.kind = 11 ∨ o.kind = 12 ∨ o.kind = 14 := by omega
     obtain ⟨s1, hs1⟩ : ∃ s1 : StS, s1 = { s with next := s.next + 1 } := ⟨_, rfl⟩
     have ht1 : s1.t = s.t := by rw [hs1]
     have hh1 : s1.h = s.h := by rw [hs1]
     rw [← hs1]
     have hcore := fun g hg eg d hdo => apply_does w b S s h hok addr text hts hf hS0 ha ha2 o mv hd hs g hg eg d hdo
     rw [← hs1] at hcore
     rcases h14 with h | h | h | h | h | h | h | h | h | h | h | h | h
     · rw [show s1.does o mv addr = s1.tr ((s1.t.mk' o.path 1).run s1.t) by unfold StS.does; simp only [h]; rfl]
       exact hcore 75 (by rw [h]; rfl) (enters_of Tryz.func75 (by kernel_rfl) rfl) _ (fun W mp mc hW hin => name1_any W b S s1 hW (by rw [ht1]; exact hok.t) addr (o.withM mp mv.length mc) h)
     · rw [show s1.does o mv addr = s1.tr ((s1.t.rmdir o.path).run s1.t) by unfold StS.does; simp only [h]; rfl]
       exact hcore 75 (by rw [h]; rfl) (enters_of Tryz.func75 (by kernel_rfl) rfl) _ (fun W mp mc hW hin => name2_any W b S s1 hW (by rw [ht1]; exact hok.t) addr (o.withM mp mv.length mc) h)
     · rw [show s1.does o mv addr = s1.tr ((s1.t.mk' o.path 2).run s1.t) by unfold StS.does; simp only [h]; rfl]
       exact hcore 75 (by rw [h]; rfl) (enters_of Tryz.func75 (by kernel_rfl) rfl) _ (fun W mp mc hW hin => name3_any W b S s1 hW (by rw [ht1]; exact hok.t) addr (o.withM mp mv.length mc) h)
     · rw [show s1.does o mv addr = s1.tr ((s1.t.lnk o.path o.dest).run s1.t) by unfold StS.does; simp only [h]; rfl]
       exact hcore 75 (by rw [h]; rfl) (enters_of Tryz.func75 (by kernel_rfl) rfl) _ (fun W mp mc hW hin => name4_any W b S s1 hW (by rw [ht1]; exact hok.t) addr (o.withM mp mv.length mc) h)
     · rw [show s1.does o mv addr = s1.tr ((s1.t.unlink o.path).run s1.t) by unfold StS.does; simp only [h]; rfl]
       exact hcore 75 (by rw [h]; rfl) (enters_of Tryz.func75 (by kernel_rfl) rfl) _ (fun W mp mc hW hin => name5_any W b S s1 hW (by rw [ht1]; exact hok.t) addr (o.withM mp mv.length mc) h)
     · rw [show s1.does o mv addr = s1.tr ((s1.t.rename o.path o.dest).run s1.t) by unfold StS.does; simp only [h]; rfl]
       exact hcore 75 (by rw [h]; rfl) (enters_of Tryz.func75 (by kernel_rfl) rfl) _ (fun W mp mc hW hin => name6_any W b S s1 hW (by rw [ht1]; exact hok.t) addr (o.withM mp mv.length mc) h)
     · rw [show s1.does o mv addr = s1.tr ((s1.t.trunc o.path o.size).run s1.t) by unfold StS.does; simp only [h]; rfl]
       exact hcore 75 (by rw [h]; rfl) (enters_of Tryz.func75 (by kernel_rfl) rfl) _ (fun W mp mc hW hin => name7_any W b S s1 hW (by rw [ht1]; exact hok.t) addr (o.withM mp mv.length mc) h)
     · rw [show s1.does o mv addr = s1.opn o addr by unfold StS.does; simp only [h]; rfl]
       exact hcore 76 (by rw [h]; rfl) (enters_of Tryz.func76 (by kernel_rfl) rfl) _ (fun W mp mc hW hin => open_st W b S s1 hW (by rw [ht1]; exact hok.t.t) (by rw [hh1]; exact hl) addr (o.withM mp mv.length mc))
     · rw [show s1.does o mv addr = s1.cls o by unfold StS.does; simp only [h]; rfl]
       exact hcore 77 (by rw [h]; rfl) (enters_of Tryz.func77 (by kernel_rfl) rfl) _ (fun W mp mc hW hin => close_any W b S s1 hW (by rw [ht1]; exact hok.t.t) addr (o.withM mp mv.length mc))
     · rw [show s1.does o mv addr = s1.wrt o addr by unfold StS.does; simp only [h]; rfl]
       exact hcore 78 (by rw [h]; rfl) (enters_of Tryz.func78 (by kernel_rfl) rfl) _ (fun W mp mc hW hin => write_any W b S s1 hW (by rw [ht1]; exact hok.t.t) addr (o.withM mp mv.length mc))
     · rw [show s1.does o mv addr = (((s1.h.renew o.client o.tick).1, 0), { s1 with h := (s1.h.renew o.client o.tick).2 }) by unfold StS.does; simp only [h]; rfl]
       exact hcore 79 (by rw [h]; rfl) (enters_of Tryz.func79 (by kernel_rfl) rfl) _ (fun W mp mc hW hin => renew_any W b S s1 hW addr (o.withM mp mv.length mc))
     · rw [show s1.does o mv addr = s1.exp o.tick by unfold StS.does; simp only [h]; rfl]
       exact hcore 80 (by rw [h]; rfl) (enters_of Tryz.func80 (by kernel_rfl) rfl) _ (fun W mp mc hW hin => expire_any W b S s1 hW (by rw [ht1]; exact hok.t.t) (by rw [hh1]; exact hl) (by rw [hh1]; exact hok.hk) addr (o.withM mp mv.length mc))
     · rw [show s1.does o mv addr = ((0, 0), s1) by unfold StS.does; simp only [h]; rfl]
       exact hcore 82 (by rw [h]; rfl) (enters_of Tryz.func82 (by kernel_rfl) rfl) _ (fun W mp mc hW hin => image_any W b S s1 hW addr (o.withM mp mv.length mc))
end Go.Proofs.YtajbooppoohplaaGreatDoor
/- package state: move; Apply of a record of any kind -/
namespace Go.Proofs.YtajbooppoohplaaGreatDoor
open Go.RowKit Esch Go.Shelf

set_option linter.unusedSimpArgs false
theorem decOp_good {text : ByteArray} {r : OpS × List Mv} (h : decOp text = some r) : goodV r.1 r.2 = true := by
 unfold decOp at h
 split at h
 · cases h
 split at h
 · rename_i hg
   cases h
   exact hg
 · cases h
theorem decOp_mv {text : ByteArray} {o : OpS} {mv : List Mv} (h : decOp text = some (o, mv)) (hk : o.kind = 13) : mv.length ≤ 100000 := by
 have hg : goodV o mv = true := decOp_good h
 unfold goodV OpS.good at hg
 simp only [Bool.and_eq_true] at hg
 have hf := hg.1.2
 unfold OpS.form at hf
 rw [show (o.withM none mv.length 0).kind = 13 from hk] at hf
 have hf : (winB o.ino 1 2147483647 && winB mv.length 1 16 && decide (o.data.size ≤ 1024) && mv.all (goodMv o.data.size)) = true := hf
 simp only [Bool.and_eq_true] at hf
 have h2 := hf.1.1.2
 simp only [winB, Bool.and_eq_true, decide_eq_true_eq] at h2
 omega
theorem move_st (w : World) (b : Nat) (S : Nat → Prop) (s : StS) (h : SttAt w b S s) (hok : s.t.t.ok) (addr : Int) (o : OpS) (mv : List Mv) (hin : OpIn w o mv) (hfew : mv.length ≤ 100000) :
    Calls Tryz.prog 81 #[.pointer (some ⟨b, 0, none⟩), .int .i64 addr, opCells o] w (DoesPost w b S (s.tab (s.t.t.move o.ino mv addr))) := by
 have hrow := hin.row
 have hlen := hin.len
 clear hin
 obtain ⟨xc, xs, xk, p, q, xz, xh, xo, xt, xi, xn, mp, ml, mc⟩ := o
 simp only [StS.tr, StS.tab, opCells, OpS.cells]
 simp only at hrow hlen
 subst hlen
 obtain ⟨sb, lt, tb, hb, ob, mb, S1, S2, hi, s1, s2, so, sm⟩ := h
 have hbl : b < w.heap.size := cell_lt hi.c0
 obtain ⟨W1, hW1⟩ : ∃ W1, W1 = (w.alloc (.cells #[.int .i64 xc, .int .i64 xs, .int .i64 xk, .string (bs p), .string (bs q), .int .i64 xz, .int .i64 xh, .int .i64 xo, .string xt, .int .i64 xi, .int .i64 xn, .slice mp mv.length mc] 31)).alloc (.cells #[.int .i64 0, .int .i64 0] 36) := ⟨_, rfl⟩
 have hB1 : Below w.heap.size w W1 := by rw [hW1]; exact belC (Below.refl _ _)
 have hz1 : W1.heap.size = w.heap.size + 2 := by rw [hW1]; simp
 have HC : Hid (StCur w W1 b tb hb ob mb S S1 S2 s) := Lib.hid ⟨hi.mod (F := none') (Mod.of_below hB1) id id id (fun _ _ => id) (fun _ _ => id), Mod.of_below hB1, fun k hk => Or.inl (s1 k hk), s2, sb, so, sm, lt⟩
 have r0 : W1.cell? ⟨w.heap.size + 1, 0, none⟩ = some (.int .i64 0) := by rw [hW1]; go_simp
 have r1 : W1.cell? ⟨w.heap.size + 1, 1, none⟩ = some (.int .i64 0) := by rw [hW1]; go_simp
 have f0 : W1.frozen? ⟨w.heap.size + 1, 0, none⟩ = false := by rw [hW1]; go_simp
 have f1 : W1.frozen? ⟨w.heap.size + 1, 1, none⟩ = false := by rw [hW1]; go_simp
 have a0 : W1.cell? ⟨w.heap.size, 0, none⟩ = some (.int .i64 xc) := by rw [hW1]; go_simp
 have a3 : W1.cell? ⟨w.heap.size, 3, none⟩ = some (.string (bs p)) := by rw [hW1]; go_simp
 have a6 : W1.cell? ⟨w.heap.size, 6, none⟩ = some (.int .i64 xh) := by rw [hW1]; go_simp
 have a7 : W1.cell? ⟨w.heap.size, 7, none⟩ = some (.int .i64 xo) := by rw [hW1]; go_simp
 have a8 : W1.cell? ⟨w.heap.size, 8, none⟩ = some (.string xt) := by rw [hW1]; go_simp
 have a9 : W1.cell? ⟨w.heap.size, 9, none⟩ = some (.int .i64 xi) := by rw [hW1]; go_simp
 have HW1 := Lib.hid hW1
 have hol := cell_lt a0
 have hrl := cell_lt r0
 have NS1 : Hid (∀ k, w.heap.size ≤ k → k < w.heap.size + 2 → ¬ S1 k) := Lib.hid (fun k h1 h2 h => by have := lt k (s1 k h); omega)
 have NS2 : Hid (∀ k, w.heap.size ≤ k → ¬ S2 k) := Lib.hid (fun k h1 h => by have := lt k (s2 k h); omega)
 have NS0 := Lib.hid s1
 clear hi hW1 hB1 lt s1 s2 sb so sm
 have a10 : W1.cell? ⟨w.heap.size, 10, none⟩ = some (.int .i64 xn) := by rw [HW1.out]; go_simp
 have a11 : W1.cell? ⟨w.heap.size, 11, none⟩ = some (.slice mp mv.length mc) := by rw [HW1.out]; go_simp
 have hBW : Below w.heap.size w W1.drew := by rw [HW1.out]; exact belC (Below.refl _ _)
 have HMV := Lib.hid (hrow.below' hBW)
 obtain ⟨q, hq⟩ : ∃ q, q = s.t.t.move xn mv addr := ⟨_, rfl⟩
 rw [← hq]
 obtain ⟨W2, hW2⟩ : ∃ W2, W2 = W1.drew := ⟨_, rfl⟩
 rw [← hW2] at HMV
 have HC3 : Hid (StCur w W2 b tb hb ob mb S S1 S2 s) := Lib.hid (by rw [hW2]; exact HC.out.other (F := none') ((Mod.refl none' _).drew) (fun _ h => h.elim) (fun _ _ => id))
 obtain ⟨ib, Sa, hta, hsa, hin, hup⟩ := tree_tab (HC3.out.hi.tr)
 have hwr := inoMove_any W2 ib Sa s.t.t hta xn mp mc mv HMV.out hfew addr (hok.x xn)
 rw [← hq] at hwr
 have HUP := Lib.hid hup
 have NSA : Hid (∀ k, w.heap.size ≤ k → k < w.heap.size + 2 → ¬ Sa k) := Lib.hid (fun k h1 h2 h => NS1.out k h1 h2 (hsa k h))
 have NBA : Hid (¬ Sa b) := Lib.hid (fun h => HC3.out.hi.b1 (hsa _ h))
 have HW2 := Lib.hid hW2
 have hz2 : W2.heap.size = w.heap.size + 2 := by rw [hW2]; exact hz1
 have b0 : W2.cell? ⟨b, 0, none⟩ = some (.pointer (some ⟨tb, 0, none⟩)) := HC3.out.hi.c0
 have b7 : W2.cell? ⟨w.heap.size, 10, none⟩ = some (.int .i64 xn) := by rw [hW2]; exact a10
 have b8 : W2.cell? ⟨w.heap.size, 11, none⟩ = some (.slice mp mv.length mc) := by rw [hW2]; exact a11
 have q0 : W2.cell? ⟨w.heap.size + 1, 0, none⟩ = some (.int .i64 0) := by rw [hW2]; exact r0
 have q1 : W2.cell? ⟨w.heap.size + 1, 1, none⟩ = some (.int .i64 0) := by rw [hW2]; exact r1
 have g0 : W2.frozen? ⟨w.heap.size + 1, 0, none⟩ = false := by rw [hW2]; exact f0
 have g1 : W2.frozen? ⟨w.heap.size + 1, 1, none⟩ = false := by rw [hW2]; exact f1
 clear hq hta hsa hup hW2 HC hrow hfew hBW r0 r1 f0 f1 a0 a3 a6 a7 a8 a9 a10 a11
 go_enter Tryz.func81, Tryz.ntmps81
 go_wp2_with fail
 have r0 := q0
 have r1 := q1
 have f0 := g0
 have f1 := g1
 have hrl := cell_lt q0
 have hb2 := cell_lt b0
 have ho2 := cell_lt b7
 have nbr : ¬ b = w.heap.size + 1 := by omega
 rw [← HW1.out]
 refine wp_region_held_drew (S := fun W' => W'.cell? ⟨b, 0, none⟩ = some (.pointer (some ⟨tb, 0, none⟩)) ∧ W'.cell? ⟨w.heap.size, 10, none⟩ = some (.int .i64 xn) ∧ W'.cell? ⟨w.heap.size, 11, none⟩ = some (.slice mp mv.length mc)) (by kernel_rfl) (by rw [← HW2.out]; exact ⟨b0, b7, b8⟩) (fun hHeld => ?_)
 rw [← HW2.out] at hHeld ⊢
 refine takeL 0 ?_
 refine takeL 1 ?_
 refine takeL 2 ?_
 refine takeL 3 ?_
 refine takeL 5 ?_
 refine takeL 6 ?_
 refine takeL 7 ?_
 refine takeL 8 ?_
 refine takeL 9 ?_
 refine wpAnyH_ready (rs := [4]) (by kernel_rfl) (by simp) ?_
 refine AllReadyH.cons (o := _) rfl (fun K hK => ?_) AllReadyH.nil
 go_simp
 refine hin.mono ?_
 clear hin
 rintro e W3 ⟨rfl, hw3⟩
 obtain rfl := hw3.symm
 try go_wp2_with fail
 refine hK.out _ _ ⟨b0, b7, b8⟩ (fun hHeld => ?_)
 clear hK K
 try simp only [Act.put, List.setIfInBounds_toArray, List.set_cons_zero, List.set_cons_succ]
 refine wpAnyH_ready (rs := [10]) (by kernel_rfl) (by simp) ?_
 refine AllReadyH.cons (o := _) rfl (fun K hK => ?_) AllReadyH.nil
 go_simp
 refine hwr.mono ?_
 clear hwr
 rintro e W4 ⟨rfl, hT4, hM4⟩
 obtain ⟨hT5, hM5⟩ := HUP.out W4 q.2 hT4 hM4
 have b0 := hM4.at b0 NBA.out
 have b7 := hM4.at b7 (NSA.out _ (Nat.le_refl _) (by omega))
 have b8 := hM4.at b8 (NSA.out _ (Nat.le_refl _) (by omega))
 have r0 := hM4.at r0 (NSA.out (w.heap.size + 1) (by omega) (by omega))
 have r1 := hM4.at r1 (NSA.out (w.heap.size + 1) (by omega) (by omega))
 have f0 := (hM4.frozen (p := ⟨w.heap.size + 1, 0, none⟩) hrl (NSA.out (w.heap.size + 1) (by omega) (by omega))).trans f0
 have f1 := (hM4.frozen (p := ⟨w.heap.size + 1, 1, none⟩) hrl (NSA.out (w.heap.size + 1) (by omega) (by omega))).trans f1
 have hrl := cell_lt r0
 have HC4 : Hid (StCur w W4 b tb hb ob mb S (growI S1 W2 W4) S2 { s with t := ⟨q.2, s.t.n⟩ }) := Lib.hid (StCur.tree (s := s) HC3.out hT5 hM5)
 have NS4 : Hid (∀ k, growI S1 W2 W4 k → ¬ k = w.heap.size + 1) := Lib.hid (fun k hk e => by
   rcases hk with hk | hk
   · exact NS1.out k (by omega) (by omega) hk
   · omega)
 clear hT4 hM4 hT5 hM5 HC3
 try go_wp2_with fail
 refine hK.out _ _ ⟨b0, b7, b8⟩ (fun hHeld => ?_)
 clear hK K
 try simp only [Act.put, List.setIfInBounds_toArray, List.set_cons_zero, List.set_cons_succ]
 refine wpAnyH_ready (rs := [11]) (by kernel_rfl) (by simp) ?_
 refine AllReadyH.cons (o := _) rfl (fun K hK => ?_) AllReadyH.nil
 go_simp
 refine (code_any _ _).mono ?_
 rintro e WZ ⟨rfl, hBz⟩
 have r0 := below_at hBz r0 hrl
 have r1 := below_at hBz r1 hrl
 have f0 := (hBz.frozen (p := ⟨w.heap.size + 1, 0, none⟩) hrl).trans f0
 have f1 := (hBz.frozen (p := ⟨w.heap.size + 1, 1, none⟩) hrl).trans f1
 have hrl := cell_lt r0
 have HCZ := Lib.hid (HC4.out.below hBz)
 have b0 := HCZ.out.hi.c0
 have b7 := below_at hBz b7 (cell_lt b7)
 have b8 := below_at hBz b8 (cell_lt b8)
 have hbz := cell_lt b0
 have hol := cell_lt b7
 clear hBz
 try go_wp2_with fail
 refine hK.out _ _ ⟨b0, b7, b8⟩ (fun hHeld => ?_)
 clear hK K
 try simp only [Act.put, List.setIfInBounds_toArray, List.set_cons_zero, List.set_cons_succ]
 refine wpAnyH_ready (rs := [12]) (by kernel_rfl) (by simp) ?_
 refine AllReadyH.cons (o := _) rfl (fun K hK => ?_) AllReadyH.nil
 go_simp
 try go_wp2_with fail
 refine hK.out _ _ ⟨by go_simp, by go_simp, by go_simp⟩ (fun hHeld => ?_)
 clear hK K
 try simp only [Act.put, List.setIfInBounds_toArray, List.set_cons_zero, List.set_cons_succ]
 refine wpAnyH_done (by kernel_rfl) ?_ _
 clear hHeld
 go_wp2_with fail
 refine bodyPost_ret (v := .agg #[.int .i64 (q.1), .int .i64 0]) (by simp [results, Tryz.results81, go_sem, *]) rfl ?_
 exact ⟨rfl, (HCZ.out.other (F := (· = w.heap.size + 1)) (((Mod.refl (· = w.heap.size + 1) _).setCellAt (fun _ => rfl) _).setCellAt (fun _ => rfl) _) (fun k hk => by have e : k = w.heap.size + 1 := hk; omega) NS4.out).done⟩
theorem stApplyA_any (w : World) (b : Nat) (S : Nat → Prop) (s : StS) (h : SttAt w b S s) (hok : s.ok) (addr kind : Int) (text : ByteArray) (hts : text.size ≤ 9223372036854775807) (hf : FieldsAt w) (hS0 : ¬ S 0) :
    Calls Tryz.prog 10 #[.pointer (some ⟨b, 0, none⟩), .int .i64 addr, .int .i64 kind, .string text] w (APost w b S (s.apply addr kind text)) := by
 by_cases h13 : ∃ r, decOp text = some r ∧ r.1.kind = 13
 rotate_left 1
 · exact stApply_any w b S s h hok addr kind text hts hf hS0 (fun r hr hk => h13 ⟨r, hr, hk⟩)
 obtain ⟨⟨o, mv⟩, hd, hk13⟩ := h13
 unfold StS.apply
 by_cases hc : addr ≠ s.next ∨ 16384 ≤ addr ∨ (kind ≠ 1 ∧ kind ≠ 2)
 · exact mK130
 rw [if_neg hc]
 have ha : addr = s.next := Classical.not_not.1 fun h => hc (Or.inl h)
 have ha2 : addr < 16384 := by omega
 by_cases hk : kind = 2
 · exact mK129
 rw [if_neg hk]
 have hk1 : kind = 1 := by omega
 subst hk1
 rw [hd]
 simp only at hk13 ⊢
 by_cases hs : oseen s.o o.client o.seq = true
 · rw [if_pos hs]
   exact apply_seen w b S s h hok addr text hts hf hS0 ha ha2 o mv hd hs
 rw [if_neg hs]
 have hs : oseen s.o o.client o.seq = false := by simpa using hs
 obtain ⟨s1, hs1⟩ : ∃ s1 : StS, s1 = { s with next := s.next + 1 } := ⟨_, rfl⟩
 have ht1 : s1.t = s.t := by rw [hs1]
 rw [← hs1]
 have hcore := fun g hg eg d hdo => apply_does w b S s h hok addr text hts hf hS0 ha ha2 o mv hd hs g hg eg d hdo
 rw [← hs1] at hcore
 rw [show s1.does o mv addr = s1.tab (s1.t.t.move o.ino mv addr) by unfold StS.does; simp only [hk13]; rfl]
 exact hcore 81 (by rw [hk13]; rfl) (enters_of Tryz.func81 (by kernel_rfl) rfl) _ (fun W mp mc hW hin => move_st W b S s1 hW (by rw [ht1]; exact hok.t.t) addr (o.withM mp mv.length mc) mv hin (decOp_mv hd hk13))
end Go.Proofs.YtajbooppoohplaaGreatDoor
