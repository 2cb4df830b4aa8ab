/- inode.Table.Dump: the inodes in order, their parts in memory of their own -/
import Derived.Test.YtmnkackkeppheaaGreatInoRow
import Derived.Test.YtmnkackkeppheaaGreatPkTre
namespace Go.Proofs.YtmnkackkeppheaaGreat
open Go.RowKit Esch Go.Shelf

theorem Tryz.infoInode : (Tryz.prog.info? 102).map (fun i => (i.zero, i.size, i.bytes)) = some (some (.agg #[.int .i64 0, .int .i64 0, .int .i64 0, .int .i64 0, .int .i64 0, .slice none 0 0]), 6, 64) := by kernel_rfl
def DumpRel (w : World) (s : TabS) (l : List Int) (g : Nat) (v3 v10 : Value) (wr : World) : Prop :=
  ∃ (i : Nat) (ao : Option Addr) (cap : Nat) (k : List InC) (R : Nat → Prop), g = l.length - i ∧ i ≤ l.length ∧ v10 = .int .i64 i ∧ v3 = .slice ao i cap ∧ GRowAt wr R 6 i cap ao (k.flatMap InC.cells) ∧ (∀ b, R b → w.heap.size ≤ b ∧ b < wr.heap.size) ∧ (∀ x ∈ k, PcOk wr (fun b => w.heap.size ≤ b ∧ ¬ R b) x) ∧ k.map InC.val = (l.take i).map s.at ∧ Below w.heap.size w wr
/-- the dump of a table: its inodes by their numbers -/
def _root_.Esch.TabS.dump (s : TabS) : List InS := (sortI (s.m.map (·.1))).map s.at
def DumpPost (w : World) (s : TabS) (e : Ending) (w' : World) : Prop := ∃ a c k, e = .returned (.slice a k.length c) ∧ InosAt w' (From w.heap.size) a k ∧ k.map InC.val = s.dump ∧ Below w.heap.size w w'
set_option linter.unusedSimpArgs false in
set_option maxRecDepth 100000 in
set_option maxHeartbeats 4000000 in
theorem inoDump_any (w : World) (b : Nat) (S : Nat → Prop) (s : TabS) (h : TabAt w b S s) (hl : s.m.length ≤ 100000) :
    Calls Tryz.prog 50 #[.pointer (some ⟨b, 0, none⟩)] w (DumpPost w s) := by
  obtain ⟨j0, hi, hy0, hy1, hy2⟩ := info_parts Tryz.infoInode
  have hall := inoAll_any w b S s h hl
  obtain ⟨sb, lt, mb, m, c0, c1, f1, ⟨es, ck, hm⟩, sm, n1, hv, hp⟩ := h
  have hl0 := cell_lt c0
  have hml := block_lt hm.block
  have hsl : (sortI (s.m.map (·.1))).length = s.m.length := by unfold sortI; simp
  have HM := Lib.hid hm
  have HAT : Hid (∀ i, ((get m i).getD inC0).val = s.at i) := Lib.hid (fun i => (atC hv i).1)
  have HPC : Hid (∀ i, PcOk w (fun k => k < w.heap.size) ((get m i).getD inC0)) := Lib.hid (fun i => by
    cases e : get m i with
    | none => exact pcOk0 _ _ rfl rfl rfl
    | some c =>
      obtain ⟨pre, post, hmm, -⟩ := get_some e
      exact (hp (i, c) (by rw [hmm]; simp)).sub fun k hk _ => hk)
  unfold DumpPost TabS.dump
  unfold AllPost at hall
  generalize hks : sortI (s.m.map (·.1)) = ks at *
  have Hll := Lib.hid (show ks.length ≤ 100000 by omega)
  clear hm f1 c1 n1 sm hl hsl hks hv hp
  go_enter Tryz.func50, Tryz.ntmps50
  go_wp2_with fail
  refine hall.mono ?_
  clear hall
  rintro e w1 ⟨a, c, rfl, hN, hC, hB1⟩
  have HN := Lib.hid hN
  have HB1 := Lib.hid hB1
  have d0 := below_at hB1 c0 hl0
  clear hN hC hB1 c0
  go_wp2_with fail
  go_loopg [3, 10] ks.length (fun g s3 s10 wr => DumpRel w1 s ks g s3 s10 wr)
  case atStart => exact ⟨0, none, 0, [], none', rfl, Nat.zero_le _, rfl, rfl, GRowAt.nil _ _ _ _, fun _ h => h.elim, by simp, rfl, Below.refl _ _⟩
  case round =>
    obtain ⟨i, ao, cap, kk, R, rfl, hil, rfl, rfl, hG, hR, hP, hV, hB'⟩ := hrel
    have HR := Lib.hid hR
    have HG := Lib.hid hG
    have HP := Lib.hid hP
    have HV := Lib.hid hV
    have HB' := Lib.hid hB'
    clear hG hR hP hV hB'
    by_cases hlt : i < ks.length
    · obtain ⟨bk, off, rfl, hSb, hbl, hc⟩ := HN.out (by omega)
      have f0 := below_at HB'.out (hc i hlt) hbl
      have HT := Lib.hid (take_one ks 0 hlt)
      have hlt' := Lib.hid hlt
      have hbl' : bk < wr.heap.size := cell_lt f0
      have d1 := below_at HB'.out d0 (Nat.lt_of_lt_of_le hl0 HB1.out.size)
      have hld1 := cell_lt d1
      have hil2 : (0 : Int) ≤ i ∧ (i : Int) < ks.length := by omega
      generalize ks.getD i 0 = kn at *
      have hlk := (HM.out.of_block ((HB1.out.trans (HB'.out.mono HB1.out.size)).block mb hml)).look keyInt Tryz.underlying176 zeroIn kn false
      rw [show ((get m kn).map inCV).getD (inCV inC0) = inCV ((get m kn).getD inC0) by cases get m kn <;> rfl] at hlk
      simp only [Bool.false_eq_true, if_false] at hlk
      have hpk := HPC.out kn
      have hat := HAT.out kn
      obtain ⟨u, hu⟩ : ∃ u, u = (get m kn).getD inC0 := ⟨_, rfl⟩
      rw [← hu] at hlk hpk hat
      clear hu
      obtain ⟨x0, x1, x2, x3, x4, pa, pc, lp⟩ := u
      have HAT2 := Lib.hid hat
      simp only [inCV, iV] at hlk
      have hwr := Lib.hid (show wrap64 ((i : Int) + 1) = ((i + 1 : Nat) : Int) by unfold wrap64; have := Hll.out; omega)
      have hms : ks.length - (i + 1) < ks.length - i := Nat.sub_lt_sub_left hlt (Nat.lt_succ_self i)
      obtain ⟨W1, hW1⟩ : ∃ W1, W1 = wr.alloc (.cells #[.int .i64 x0, .int .i64 x1, .int .i64 x2, .int .i64 x3, .int .i64 x4, .slice pa lp.length pc] 102) := ⟨_, rfl⟩
      have hBW : Below wr.heap.size wr W1 := by rw [hW1]; exact belC (Below.refl _ _)
      have hzW : W1.heap.size = wr.heap.size + 1 := by rw [hW1]; simp
      have hcl1 := ptClone_any W1 _ pa pc lp ((hpk.below' ((HB1.out.trans (HB'.out.mono HB1.out.size)).trans (hBW.mono (Nat.le_trans HB1.out.size HB'.out.size)))).row) (fun _ e => hpk.nil e) hpk.few
      have HLP := Lib.hid hpk.few
      have e0 : W1.cell? ⟨wr.heap.size, 0, none⟩ = some (.int .i64 x0) := by rw [hW1]; go_simp
      have e1 : W1.cell? ⟨wr.heap.size, 1, none⟩ = some (.int .i64 x1) := by rw [hW1]; go_simp
      have e2 : W1.cell? ⟨wr.heap.size, 2, none⟩ = some (.int .i64 x2) := by rw [hW1]; go_simp
      have e3 : W1.cell? ⟨wr.heap.size, 3, none⟩ = some (.int .i64 x3) := by rw [hW1]; go_simp
      have e4 : W1.cell? ⟨wr.heap.size, 4, none⟩ = some (.int .i64 x4) := by rw [hW1]; go_simp
      have e5 : W1.cell? ⟨wr.heap.size, 5, none⟩ = some (.slice pa lp.length pc) := by rw [hW1]; go_simp
      have g5 : W1.frozen? ⟨wr.heap.size, 5, none⟩ = false := by rw [hW1]; go_simp
      have hwl := cell_lt e0
      have HW1 := Lib.hid hW1
      have HBW := Lib.hid hBW
      have HZW := Lib.hid hzW
      clear hc hbl hpk hat hW1 hBW hzW
      go_wp2_with fail
      rw [← HW1.out]
      refine hcl1.mono ?_
      clear hcl1 hlk
      rintro e w5 ⟨a3, c3, rfl, hr3, hc1, hc2, hc3, hB5⟩
      have h0 := below_at hB5 e0 hwl
      have h1 := below_at hB5 e1 hwl
      have h2 := below_at hB5 e2 hwl
      have h3 := below_at hB5 e3 hwl
      have h4 := below_at hB5 e4 hwl
      have h5 := below_at hB5 e5 hwl
      have j5 : w5.frozen? ⟨wr.heap.size, 5, none⟩ = false := ((Mod.of_below (F := none') hB5).frozen (p := ⟨wr.heap.size, 5, none⟩) hwl id).trans g5
      have HB5 : Hid (Below wr.heap.size wr w5) := Lib.hid (HBW.out.trans (hB5.mono HBW.out.size))
      have HZ5 : Hid (W1.heap.size ≤ w5.heap.size) := Lib.hid hB5.size
      have hwl5 : wr.heap.size < w5.heap.size := cell_lt h0
      have HR3 := Lib.hid hr3
      have HC3 := Lib.hid (show lp.length ≤ c3 ∧ c3 ≤ 9223372036854775807 from ⟨hc1, hc2⟩)
      have HN3 : Hid (a3 = none → c3 = 0) := Lib.hid (fun e => by
        by_cases hlp : lp.length = 0
        · exact hc3 hlp e
        · obtain ⟨pb, po, e2, -⟩ := hr3.at' (by omega)
          rw [e] at e2; cases e2)
      clear hr3 hc1 hc2 hc3 hB5 e0 e1 e2 e3 e4 e5 g5 hwl
      obtain ⟨W7, hW7⟩ : ∃ W7, W7 = (w5.setCell ⟨wr.heap.size, 5, none⟩ (.slice a3 lp.length c3)).alloc (.cells (InC.cells ⟨x0, x1, x2, x3, x4, a3, c3, lp⟩).toArray 102) := ⟨_, rfl⟩
      have hB7 : Below wr.heap.size wr W7 := by rw [hW7]; exact belC HB5.out
      have hM7 : Mod (· = wr.heap.size) w5 W7 := by rw [hW7]; exact modC (Mod.refl _ _)
      have hz7 : W7.heap.size = w5.heap.size + 1 := by rw [hW7]; simp
      have hsrc : W7.heap[w5.heap.size]? = some (.cells (InC.cells ⟨x0, x1, x2, x3, x4, a3, c3, lp⟩).toArray 102) := by
        rw [hW7, show w5.heap.size = (w5.setCell ⟨wr.heap.size, 5, none⟩ (.slice a3 lp.length c3)).heap.size by simp]
        exact heap_alloc_new _ _
      have hG7 := HG.out.mod (F := none') (Mod.of_below hB7) (fun _ _ _ => id)
      have HB7 := Lib.hid hB7
      have HM7 := Lib.hid hM7
      have HZ7 := Lib.hid hz7
      rw [hW7] at hG7 hsrc
      have HG7 := Lib.hid hG7
      have HSRC := Lib.hid hsrc
      have HW7 := Lib.hid hW7
      clear hB7 hM7 hz7 hW7 hG7 hsrc
      go_wp2_with (at_builtin; refine wpList_append_g (by rfl) (.tmp 24) (.tmp 26) 23 23 (by rfl) 102 j0 _ 64 Tryz.underlying23 hi hy0 hy1 hy2 (by rfl) (by rfl) HG7.out _ 1 (InC.cells ⟨x0, x1, x2, x3, x4, a3, c3, lp⟩) (by rfl) (src_inc _ _ Tryz.underlying23 _ _ 102 HSRC.out _) (by have := Hll.out; omega) (by have := Hll.out; omega) ?_; intro a6 cap6 w6 hg6 hM6 hz6)
      rw [show (w5.setCell ⟨wr.heap.size, 5, none⟩ (.slice a3 lp.length c3)).alloc (.cells #[.int .i64 x0, .int .i64 x1, .int .i64 x2, .int .i64 x3, .int .i64 x4, .slice a3 lp.length c3] 102) = W7 from HW7.out.symm] at hg6 hM6 hz6
      have hzB := HB'.out.size
      have hB6 : Below w1.heap.size w1 w6 := (HB'.out.trans (HB7.out.mono HB'.out.size)).trans (hM6.below_at (Nat.le_trans HB'.out.size HB7.out.size) (fun k hk e => by have := (HR.out k e).1; omega))
      have HNEW : Hid (∃ R' : Nat → Prop, GRowAt w6 R' 6 (i + 1) cap6 a6 ((kk ++ [(⟨x0, x1, x2, x3, x4, a3, c3, lp⟩ : InC)]).flatMap InC.cells) ∧ (∀ b, R' b → w1.heap.size ≤ b ∧ b < w6.heap.size) ∧ (∀ x ∈ kk ++ [(⟨x0, x1, x2, x3, x4, a3, c3, lp⟩ : InC)], PcOk w6 (fun b => w1.heap.size ≤ b ∧ ¬ R' b) x)) := Lib.hid (by
        have z7 := HZ7.out
        have zw := HZW.out
        have z5 := HZ5.out
        have z6 := hM6.size
        refine ⟨fun k => R k ∨ (k = W7.heap.size ∧ k < w6.heap.size), ?_, fun b hb => ?_, fun x hx => ?_⟩
        · rw [List.flatMap_append, show ([⟨x0, x1, x2, x3, x4, a3, c3, lp⟩] : List InC).flatMap InC.cells = InC.cells ⟨x0, x1, x2, x3, x4, a3, c3, lp⟩ from List.append_nil _]
          exact hg6.sub (fun k hk h => h.imp id (fun e => ⟨e, hk⟩))
        · rcases hb with hb | hb
          · have := HR.out b hb; omega
          · omega
        · rcases List.mem_append.1 hx with hx | hx
          · have h1 := (HP.out x hx).sub (T := fun b => (w1.heap.size ≤ b ∧ ¬ R b) ∧ b < wr.heap.size) (fun b hb hb2 => ⟨hb2, hb⟩)
            have h2 := (h1.below' HB7.out).mod hM6 (fun k hk _ hR => hk.1.2 hR)
            exact h2.sub (fun b _ hb => ⟨hb.1.1, fun e => e.elim hb.1.2 (fun e => by omega)⟩)
          · rw [List.mem_singleton] at hx
            subst hx
            refine ⟨?_, fun e => HN3.out e, HC3.out, HLP.out⟩
            have h3 := (HR3.out.mod HM7.out (fun k hk _ e => by have e : k = wr.heap.size := e; omega)).mod hM6 (fun k hk _ hR => by have := (HR.out k hR).2; omega)
            exact h3.sub (fun b _ hb => ⟨by omega, fun e => e.elim (fun hR => by have := (HR.out b hR).2; omega) (fun e => by omega)⟩))
      have HB6 := Lib.hid hB6
      clear hg6 hM6 hz6 hB6 hzB h0 h1 h2 h3 h4 h5 j5 hwl5
      go_wp2_with fail
      go_roundg (ks.length - (i + 1))
      case measure => exact hms
      case rel =>
        obtain ⟨R', n1, n2, n3⟩ := HNEW.out
        exact ⟨i + 1, a6, cap6, _, R', rfl, hlt'.out, by first | rfl | rw [hwr.out], rfl, n1, n2, n3, by rw [HT.out, List.map_append, List.map_append, HV.out, List.map_singleton, List.map_singleton, ← HAT2.out]; rfl, HB6.out⟩
    · obtain rfl : i = ks.length := by omega
      have hg := HG.out
      have hv := HV.out
      rw [List.take_length] at hv
      have hkl : kk.length = ks.length := by simpa using congrArg List.length hv
      rw [← hkl] at hg
      go_wp2_with fail
      go_ret
      exact ⟨ao, cap, kk, by rw [hkl]; rfl, ⟨hg.row.sub (fun b _ hb => Nat.le_trans HB1.out.size (HR.out b hb).1), fun x hx => (HP.out x hx).sub (fun b _ hb => Nat.le_trans HB1.out.size hb.1)⟩, hv, HB1.out.trans (HB'.out.mono HB1.out.size)⟩
end Go.Proofs.YtmnkackkeppheaaGreat
