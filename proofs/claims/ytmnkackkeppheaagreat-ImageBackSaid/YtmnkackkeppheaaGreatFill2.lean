/- package state: fill of any dump -/
import Derived.Test.YtmnkackkeppheaaGreatPkFil
namespace Go.Proofs.YtmnkackkeppheaaGreat
open Go.RowKit Esch Go.Shelf

set_option linter.unusedSimpArgs false
set_option linter.unusedVariables false
/-- where the loops stand -/
abbrev FlA (lo : Nat) (X : Nat → Prop) (w0 : World) (b tb hb ob mb ib nb xb : Nat) (x : DmC) (s : StS) (W : World) : Prop := FlX lo X w0 b tb hb ob mb ib nb s W ∧ DmKp lo X xb x W
def NmRel (lo : Nat) (X : Nat → Prop) (w0 : World) (b tb hb ob mb ib nb xb : Nat) (x : DmC) (t : TabS) (g : Nat) (v : Value) (wr : World) : Prop :=
  ∃ (i : Nat) (n : DirS), g = x.nl.length - i ∧ i ≤ x.nl.length ∧ v = .int .i64 i ∧ (x.nl.take i).foldlM addF tr0.n = some n ∧ FlA lo X w0 b tb hb ob mb ib nb xb x ⟨⟨t, n⟩, hd0, [], 0⟩ wr
def HlRel (lo : Nat) (X : Nat → Prop) (w0 : World) (b tb hb ob mb ib nb xb mz : Nat) (x : DmC) (t : TrS) (g : Nat) (v : Value) (wr : World) : Prop :=
  ∃ (i : Nat) (q : HdS × List (Int × Int)), g = x.hl.length - i ∧ i ≤ x.hl.length ∧ v = .int .i64 i ∧ (x.hl.take i).foldlM (opnF t.t) (hd0, []) = some q ∧ FlA lo X w0 b tb hb ob mb ib nb xb x ⟨t, q.1, [], 0⟩ wr ∧ MpAt wr mz iV iV q.2
def AlRel (l : List Int) (t : TabS) (o : List (Int × Int)) (w1 : World) (g : Nat) (v : Value) (wr : World) : Prop :=
  ∃ i : Nat, g = l.length - i ∧ i ≤ l.length ∧ v = .int .i64 i ∧ (∀ j, j < i → (t.at (l.getD j 0)).opens = val0 o (l.getD j 0)) ∧ Below w1.heap.size w1 wr
def RwRel (lo : Nat) (X : Nat → Prop) (w0 : World) (b tb hb ob mb ib nb xb : Nat) (x : DmC) (v : DVal) (t : TrS) (q : HdS) (g : Nat) (u : Value) (wr : World) : Prop :=
  ∃ (i : Nat) (p : HdS × OM), g = 8 - i ∧ i ≤ 8 ∧ u = .int .i64 i ∧ (List.range i).foldlM (rowF v) (q, []) = some p ∧ FlA lo X w0 b tb hb ob mb ib nb xb x ⟨t, p.1, p.2, 0⟩ wr
set_option maxRecDepth 100000 in
set_option maxHeartbeats 16000000 in
theorem fill_any (w : World) (lo b tb hb ob mb : Nat) (S1 S2 : Nat → Prop) (hi : StIn w b tb hb ob mb S1 S2 st0) (h1 : ∀ k, S1 k → lo ≤ k) (h2 : ∀ k, S2 k → lo ≤ k) (hlb : lo ≤ b) (hlm : lo ≤ mb) (hlo : lo ≤ ob) (x : DmC) (v : DVal) (hx : DmIs x v) (hr : DmOk w (fun k => k < lo) x) :
    Calls Tryz.prog 59 #[.pointer (some ⟨b, 0, none⟩), .agg x.cells.toArray] w (FlPost lo w b tb hb ob mb v) := by
  have hmm := @run_makeMap Tryz.prog
  have hlw : lo ≤ w.heap.size := Nat.le_of_lt (Nat.lt_of_le_of_lt hlb (cell_lt hi.c0))
  obtain ⟨W1, hW1⟩ : ∃ W1, W1 = w.alloc (.cells x.cells.toArray 32) := ⟨_, rfl⟩
  have hB1 : Below w.heap.size w W1 := by rw [hW1]; exact belC (Below.refl _ _)
  have hz1 : W1.heap.size = w.heap.size + 1 := by rw [hW1]; simp
  obtain ⟨ib, nb, g0, g1⟩ : ∃ ib nb, w.cell? ⟨tb, 0, none⟩ = some (.pointer (some ⟨ib, 0, none⟩)) ∧ w.cell? ⟨tb, 1, none⟩ = some (.pointer (some ⟨nb, 0, none⟩)) := by
    obtain ⟨-, -, ib, nb, T1, T2, g0, g1, -⟩ := hi.tr
    exact ⟨ib, nb, g0, g1⟩
  obtain ⟨xb, hxb⟩ : ∃ xb, xb = w.heap.size := ⟨_, rfl⟩
  obtain ⟨w0, hw0⟩ : ∃ w0, w0 = w := ⟨_, rfl⟩
  have hFl : FlA lo (· = xb) w0 b tb hb ob mb ib nb xb x st0 W1 := by
    subst hxb hw0
    have hne : ∀ k, k < w0.heap.size → lo ≤ k → FO lo (· = w0.heap.size) k := fun k hk hl => ⟨hl, fun e => by have e : k = w0.heap.size := e; omega⟩
    refine ⟨⟨⟨S1, S2, hi.mod (F := none') (Mod.of_below hB1) id id id (fun _ _ => id) (fun _ _ => id), fun k hk => hne k (hi.tr.lt k hk) (h1 k hk), fun k hk => hne k (hi.hd.lt k hk) (h2 k hk)⟩, below_at hB1 g0 (cell_lt g0), below_at hB1 g1 (cell_lt g1), hne b (cell_lt hi.c0) hlb, hne mb hi.on.lt hlm, hne ob (cell_lt hi.on.1) hlo, fun k hk => (by have hk : k = w0.heap.size := hk; omega), hB1.mono hlw, hlw⟩, ?_, ?_, rfl⟩
    · rw [hW1]; exact DmBox.new _ _ _ rfl
    · exact dmOk_md hr (F := none') (Mod.of_below hB1) (fun _ _ _ => id)
  have HDI := Lib.hid hx
  obtain ⟨x0, x1, x2, x3, x4, x5, x6⟩ := hx
  have HX3 := Lib.hid x3
  have HX4 := Lib.hid x4
  have HX6 := Lib.hid x6
  have HX0 := Lib.hid x0
  have HIK : Hid ((tabOf v.ik v.m).m.length ≤ 100000) := Lib.hid (by have h := hFl.2.ok.i1; have h2 := congrArg List.length x1; rw [List.length_map] at h2; show (v.ik.map _).length ≤ 100000; rw [List.length_map]; omega)
  have HF1 := Lib.hid hFl
  have HK : Hid (∀ X s W, FlA lo X w0 b tb hb ob mb ib nb xb x s W → (W.cell? ⟨b, 0, none⟩ = some (.pointer (some ⟨tb, 0, none⟩)) ∧ W.cell? ⟨xb, 0, none⟩ = some (.int .i64 x.n) ∧ W.cell? ⟨xb, 1, none⟩ = some (.slice x.ia x.ik.length x.ic) ∧ W.cell? ⟨xb, 2, none⟩ = some (.int .i64 x.m) ∧ W.cell? ⟨xb, 3, none⟩ = some (.slice x.na x.nl.length x.nc) ∧ W.cell? ⟨xb, 4, none⟩ = some (.slice x.ha x.hl.length x.hc))) := Lib.hid (fun X s W h => ⟨h.1.keys.1, h.2.keys⟩)
  have HW1 := Lib.hid hW1
  have HW0 := Lib.hid hw0
  have HXB := Lib.hid hxb
  clear hi h1 h2 hlb hlm hlo hr hlw hW1 hB1 hz1 g0 g1 hFl hw0 hxb x5
  go_enter Tryz.func59, Tryz.ntmps59
  go_wp2_with fail
  rw [← HW1.out, ← HXB.out]
  have HFd := Lib.hid (show FlA lo (· = xb) w0 b tb hb ob mb ib nb xb x st0 W1.drew from ⟨HF1.out.1.below (show Below _ _ _ from (Below.refl _ _).drew), HF1.out.2.below (show Below _ _ _ from (Below.refl _ _).drew)⟩)
  have hk0 := HK.out _ _ _ HFd.out
  refine wp_region_held_drew (S := fun W' => W'.cell? ⟨b, 0, none⟩ = some (.pointer (some ⟨tb, 0, none⟩)) ∧ W'.cell? ⟨xb, 0, none⟩ = some (.int .i64 x.n) ∧ W'.cell? ⟨xb, 1, none⟩ = some (.slice x.ia x.ik.length x.ic) ∧ W'.cell? ⟨xb, 2, none⟩ = some (.int .i64 x.m)) (by kernel_rfl) ⟨hk0.1, hk0.2.1, hk0.2.2.1, hk0.2.2.2.1⟩ (fun hHeld => ?_)
  clear hk0
  by_cases n0 : x.n < 0
  · have n0' : decide (x.n < 0) = true := decide_eq_true n0
    have HNO := Lib.hid (LoadOk.no (fill_lo (v := v) (Or.inl (by rw [← x0]; exact n0))))
    clear x0 x1 x2 x3 x4 x6 n0
    first | refine takeL 0 ?_ | refine takeU 0 ?_
    first | refine takeL 1 ?_ | refine takeU 1 ?_
    first | refine takeL 2 ?_ | refine takeU 2 ?_
    first | refine takeL 3 ?_ | refine takeU 3 ?_
    first | refine takeL 4 ?_ | refine takeU 4 ?_
    first | refine takeL 5 ?_ | refine takeU 5 ?_
    first | refine takeL 6 ?_ | refine takeU 6 ?_
    first | refine takeL 7 ?_ | refine takeU 7 ?_
    first | refine takeL 8 ?_ | refine takeU 8 ?_
    first | refine takeL 9 ?_ | refine takeU 9 ?_
    first | refine takeL 10 ?_ | refine takeU 10 ?_
    first | refine takeL 11 ?_ | refine takeU 11 ?_
    first | refine takeL 12 ?_ | refine takeU 12 ?_
    first | refine takeL 13 ?_ | refine takeU 13 ?_
    first | refine takeL 14 ?_ | refine takeU 14 ?_
    first | refine takeL 15 ?_ | refine takeU 15 ?_
    first | refine takeL 16 ?_ | refine takeU 16 ?_
    first | refine takeL 17 ?_ | refine takeU 17 ?_
    first | refine takeL 18 ?_ | refine takeU 18 ?_
    first | refine takeL 19 ?_ | refine takeU 19 ?_
    first | refine takeL 20 ?_ | refine takeU 20 ?_
    refine wpAnyH_done (by kernel_rfl) ?_ _
    clear hHeld
    go_wp2_with fail
    go_ret
    exact FlPost.no HNO.out (by rw [← HW0.out]; exact HFd.out.1.fr)
  have n0' : decide (x.n < 0) = false := decide_eq_false n0
  by_cases n1 : 16384 < x.n
  · have n1' : decide (16384 < x.n) = true := decide_eq_true n1
    have HNO := Lib.hid (LoadOk.no (fill_lo (v := v) (Or.inr (Or.inl (by rw [← x0]; exact n1)))))
    clear x0 x1 x2 x3 x4 x6 n1 n0
    first | refine takeL 0 ?_ | refine takeU 0 ?_
    first | refine takeL 1 ?_ | refine takeU 1 ?_
    first | refine takeL 2 ?_ | refine takeU 2 ?_
    first | refine takeL 3 ?_ | refine takeU 3 ?_
    first | refine takeL 4 ?_ | refine takeU 4 ?_
    first | refine takeL 5 ?_ | refine takeU 5 ?_
    first | refine takeL 6 ?_ | refine takeU 6 ?_
    first | refine takeL 7 ?_ | refine takeU 7 ?_
    first | refine takeL 8 ?_ | refine takeU 8 ?_
    first | refine takeL 9 ?_ | refine takeU 9 ?_
    first | refine takeL 10 ?_ | refine takeU 10 ?_
    first | refine takeL 11 ?_ | refine takeU 11 ?_
    first | refine takeL 12 ?_ | refine takeU 12 ?_
    first | refine takeL 13 ?_ | refine takeU 13 ?_
    first | refine takeL 14 ?_ | refine takeU 14 ?_
    first | refine takeL 15 ?_ | refine takeU 15 ?_
    first | refine takeL 16 ?_ | refine takeU 16 ?_
    first | refine takeL 17 ?_ | refine takeU 17 ?_
    first | refine takeL 18 ?_ | refine takeU 18 ?_
    first | refine takeL 19 ?_ | refine takeU 19 ?_
    first | refine takeL 20 ?_ | refine takeU 20 ?_
    refine wpAnyH_done (by kernel_rfl) ?_ _
    clear hHeld
    go_wp2_with fail
    go_ret
    exact FlPost.no HNO.out (by rw [← HW0.out]; exact HFd.out.1.fr)
  have n1' : decide (16384 < x.n) = false := decide_eq_false n1
  have HN01 : Hid (¬ v.n < 0 ∧ ¬ 16384 < v.n) := Lib.hid (by rw [← x0]; exact ⟨n0, n1⟩)
  have hild := HFd.out.1.ild HFd.out.2.ok.ino (ic := x.ic) x.m
  obtain ⟨r, hr⟩ : ∃ r, r = loadP v.ik v.m := ⟨_, rfl⟩
  unfold IldPost at hild
  rw [show loadP (x.ik.map InC.val) x.m = loadP v.ik v.m by rw [x1, x2], show tabOf (x.ik.map InC.val) x.m = tabOf v.ik v.m by rw [x1, x2], ← hr] at hild
  have HR := Lib.hid hr
  have hin := inodes_is W1.drew tb ib HFd.out.1.t0
  clear n0 n1 x0 x1 x2 x3 x4 x6 hr
  first | refine takeL 0 ?_ | refine takeU 0 ?_
  first | refine takeL 1 ?_ | refine takeU 1 ?_
  first | refine takeL 2 ?_ | refine takeU 2 ?_
  first | refine takeL 3 ?_ | refine takeU 3 ?_
  first | refine takeL 4 ?_ | refine takeU 4 ?_
  first | refine takeL 5 ?_ | refine takeU 5 ?_
  first | refine takeL 6 ?_ | refine takeU 6 ?_
  first | refine takeL 7 ?_ | refine takeU 7 ?_
  first | refine takeL 8 ?_ | refine takeU 8 ?_
  first | refine takeL 9 ?_ | refine takeU 9 ?_
  first | refine takeL 10 ?_ | refine takeU 10 ?_
  first | refine takeL 11 ?_ | refine takeU 11 ?_
  first | refine takeL 12 ?_ | refine takeU 12 ?_
  first | refine takeL 14 ?_ | refine takeU 14 ?_
  first | refine takeL 15 ?_ | refine takeU 15 ?_
  first | refine takeL 16 ?_ | refine takeU 16 ?_
  first | refine takeL 17 ?_ | refine takeU 17 ?_
  refine wpAnyH_ready (rs := [13]) (by kernel_rfl) (by simp) ?_
  refine AllReadyH.cons (o := _) rfl (fun K hK => ?_) AllReadyH.nil
  go_simp
  refine hin.mono ?_
  clear hin
  rintro e w2 ⟨rfl, hw2⟩
  subst hw2
  try go_wp2_with fail
  refine hK.out _ _ hHeld (fun hHeld => ?_)
  clear hK K
  try simp only [Act.put, List.setIfInBounds_toArray, List.set_cons_zero, List.set_cons_succ]
  refine wpAnyH_ready (rs := [18]) (by kernel_rfl) (by simp) ?_
  refine AllReadyH.cons (o := _) rfl (fun K hK => ?_) AllReadyH.nil
  go_simp
  refine hild.mono ?_
  clear hild
  rintro e w3 ⟨rfl, hM, hF⟩
  have HM := Lib.hid hM
  have HKX := Lib.hid (show _ ∧ _ ∧ _ ∧ _ from ⟨hM.at hHeld.1 (fun e => e.2 rfl), hM.at hHeld.2.1 (fun e => e.1.2 rfl), hM.at hHeld.2.2.1 (fun e => e.1.2 rfl), hM.at hHeld.2.2.2 (fun e => e.1.2 rfl)⟩)
  have HFF := Lib.hid hF
  clear hM hF
  try go_wp2_with fail
  refine hK.out _ _ HKX.out (fun hHeld => ?_)
  clear hK K
  try simp only [Act.put, List.setIfInBounds_toArray, List.set_cons_zero, List.set_cons_succ]
  have hF := HFF.out
  clear HKX HFF
  by_cases hr0 : r = 0
  rotate_left 1
  · have hr1 : (r != 0) = true := by simpa using hr0
    have HNO := Lib.hid (LoadOk.no (fill_lo (v := v) (Or.inr (Or.inr (by rw [← HR.out]; exact hr0)))))
    clear hF hr0
    first | refine takeL 19 ?_ | refine takeU 19 ?_
    first | refine takeL 20 ?_ | refine takeU 20 ?_
    refine wpAnyH_done (by kernel_rfl) ?_ _
    clear hHeld
    go_wp2_with fail
    go_ret
    exact FlPost.no HNO.out (by rw [← HW0.out]; exact HFd.out.1.fr.trans (HM.out.below_at HFd.out.1.lw (fun k hk e => by have := e.1.1; omega)))
  have hF := hF hr0
  have HF3 := Lib.hid (show FlA lo (· = xb) w0 b tb hb ob mb ib nb xb x ⟨⟨tabOf v.ik v.m, tr0.n⟩, hd0, [], 0⟩ w3 from ⟨hF, HFd.out.2.mod HM.out (fun k e => e.1)⟩)
  subst hr0
  clear hF HM HFd HF1 HW1
  first | refine takeL 19 ?_ | refine takeU 19 ?_
  first | refine takeL 20 ?_ | refine takeU 20 ?_
  refine wpAnyH_done (by kernel_rfl) ?_ _
  clear hHeld
  obtain ⟨b0, k0, k1, k2, k3, k4⟩ := HK.out _ _ _ HF3.out
  obtain ⟨na, hna⟩ : ∃ na, na = x.na := ⟨_, rfl⟩
  rw [← hna] at k3
  have HNA := Lib.hid hna
  clear hna
  go_wp2_with fail
  clear b0 k0 k1 k2 k3 k4
  go_loopg [39] x.nl.length (fun g s wr => NmRel lo (· = xb) w0 b tb hb ob mb ib nb xb x (tabOf v.ik v.m) g s wr)
  case atStart => exact ⟨0, tr0.n, rfl, Nat.zero_le _, rfl, rfl, HF3.out⟩
  case round =>
    obtain ⟨i, n, rfl, hi, rfl, hfo, hF⟩ := hrel
    obtain ⟨hnok, -⟩ := names_ok hfo
    have HFO := Lib.hid hfo
    have HFr := Lib.hid hF
    clear hfo hF HF3
    by_cases hlt : i < x.nl.length
    · obtain ⟨bk, off, hba, -, hbl, hc⟩ := HFr.out.2.ok.nam.elem enC_len default hlt
      rw [← HNA.out] at hba
      subst hba
      have HST := Lib.hid (foldM_step default hlt HFO.out)
      have HBD : Hid (addF n (x.nl.getD i default) = none → x.nl.foldlM addF tr0.n = none) := Lib.hid (fun h => foldM_bad default hlt HFO.out h)
      have hil2 : (0 : Int) ≤ i ∧ (i : Int) < x.nl.length := by omega
      have hi1 := Lib.hid (show i + 1 ≤ x.nl.length from hlt)
      have hms := Lib.hid (show x.nl.length - (i + 1) < x.nl.length - i from Nat.sub_lt_sub_left hlt (Nat.lt_succ_self i))
      have hwr1 := Lib.hid (show wrap64 ((i : Int) + 1) = ((i + 1 : Nat) : Int) by have := HFr.out.2.ok.n1; unfold wrap64; omega)
      generalize x.nl.getD i default = ent at *
      obtain ⟨ed, en, ei⟩ := ent
      have f0 : wr.cell? ⟨bk, off + i * 3, none⟩ = some (.int .i64 ed) := hc 0 (by decide)
      have f1 : wr.cell? ⟨bk, off + i * 3 + 1, none⟩ = some (.string (bs en)) := hc 1 (by decide)
      have f2 : wr.cell? ⟨bk, off + i * 3 + 2, none⟩ = some (.int .i64 ei) := hc 2 (by decide)
      have hbl' := cell_lt f0
      clear hc hlt hbl hi
      obtain ⟨W5, hW5⟩ : ∃ W5, W5 = wr.alloc (.cells #[.int .i64 ed, .string (bs en), .int .i64 ei] 106) := ⟨_, rfl⟩
      have hB5 : Below wr.heap.size wr W5.drew := by rw [hW5]; exact belC (Below.refl _ _)
      have hz5 : W5.drew.heap.size = wr.heap.size + 1 := by rw [hW5]; simp
      have e0 : W5.drew.cell? ⟨wr.heap.size, 0, none⟩ = some (.int .i64 ed) := by rw [hW5]; go_simp
      have e1 : W5.drew.cell? ⟨wr.heap.size, 1, none⟩ = some (.string (bs en)) := by rw [hW5]; go_simp
      have e2 : W5.drew.cell? ⟨wr.heap.size, 2, none⟩ = some (.int .i64 ei) := by rw [hW5]; go_simp
      have HF5 := Lib.hid (HFr.out.1.more (Y := fun k => k = xb ∨ k = wr.heap.size) hB5 (fun k hk => hk.imp id fun e => ⟨by omega, by omega⟩))
      have HKP5 := Lib.hid (HFr.out.2.below hB5)
      have hW5' := Lib.hid hW5
      clear hB5 hz5 hW5
      go_wp2_with fail
      rw [← hW5'.out]
      refine wp_region_held_drew (S := fun W' => W'.cell? ⟨b, 0, none⟩ = some (.pointer (some ⟨tb, 0, none⟩)) ∧ W'.cell? ⟨wr.heap.size, 0, none⟩ = some (.int .i64 ed) ∧ W'.cell? ⟨wr.heap.size, 1, none⟩ = some (.string (bs en)) ∧ W'.cell? ⟨wr.heap.size, 2, none⟩ = some (.int .i64 ei)) (by kernel_rfl) ⟨HF5.out.keys.1, e0, e1, e2⟩ (fun hHeld => ?_)
      clear e0 e1 e2 f0 f1 f2
      have hnm := names_is W5.drew tb nb HF5.out.t1
      have hadd := HF5.out.add ed en ei hnok
      simp only at hadd
      obtain ⟨r, hr⟩ : ∃ r, r = n.add ed en ei := ⟨_, rfl⟩
      rw [← hr] at hadd
      obtain ⟨rc, rn⟩ := r
      simp only at hadd
      have HAD : Hid (addF n (ed, en, ei) = if rc = 0 then some rn else none) := Lib.hid (by unfold addF; rw [← hr])
      clear hr
      first | refine takeL 0 ?_ | refine takeU 0 ?_
      first | refine takeL 1 ?_ | refine takeU 1 ?_
      first | refine takeL 2 ?_ | refine takeU 2 ?_
      first | refine takeL 3 ?_ | refine takeU 3 ?_
      first | refine takeL 5 ?_ | refine takeU 5 ?_
      first | refine takeL 6 ?_ | refine takeU 6 ?_
      first | refine takeL 7 ?_ | refine takeU 7 ?_
      first | refine takeL 8 ?_ | refine takeU 8 ?_
      first | refine takeL 9 ?_ | refine takeU 9 ?_
      first | refine takeL 10 ?_ | refine takeU 10 ?_
      refine wpAnyH_ready (rs := [4]) (by kernel_rfl) (by simp) ?_
      refine AllReadyH.cons (o := _) rfl (fun K hK => ?_) AllReadyH.nil
      go_simp
      refine hnm.mono ?_
      clear hnm
      rintro e w2 ⟨rfl, hw2⟩
      subst hw2
      try go_wp2_with fail
      refine hK.out _ _ hHeld (fun hHeld => ?_)
      clear hK K
      try simp only [Act.put, List.setIfInBounds_toArray, List.set_cons_zero, List.set_cons_succ]
      refine wpAnyH_ready (rs := [11]) (by kernel_rfl) (by simp) ?_
      refine AllReadyH.cons (o := _) rfl (fun K hK => ?_) AllReadyH.nil
      go_simp
      refine hadd.mono ?_
      clear hadd
      rintro e w6 ⟨rfl, hM6, hF6⟩
      have HF6 := Lib.hid hF6
      have HM6 := Lib.hid hM6
      have HKX := Lib.hid (show _ ∧ _ ∧ _ from ⟨hM6.at hHeld.2.1 (fun e => e.2 (Or.inr rfl)), hM6.at hHeld.2.2.1 (fun e => e.2 (Or.inr rfl)), hM6.at hHeld.2.2.2 (fun e => e.2 (Or.inr rfl))⟩)
      clear hM6 hF6
      try go_wp2_with fail
      refine hK.out _ _ ⟨HF6.out.keys.1, HKX.out⟩ (fun hHeld => ?_)
      clear hK K
      try simp only [Act.put, List.setIfInBounds_toArray, List.set_cons_zero, List.set_cons_succ]
      clear HKX
      by_cases hr0 : rc = 0
      · subst hr0
        first | refine takeL 12 ?_ | refine takeU 12 ?_
        refine wpAnyH_done (by kernel_rfl) ?_ _
        clear hHeld
        go_wp2_with fail
        go_roundg (x.nl.length - (i + 1))
        case measure => exact hms.out
        case rel => exact ⟨i + 1, rn, rfl, hi1.out, by first | rfl | rw [hwr1.out], by rw [HST.out, HAD.out]; simp, HF6.out.less (fun k e => Or.inl e), HKP5.out.mod (HM6.out.mono fun k _ e => ⟨e.1, fun h => e.2 (Or.inl h)⟩) (fun k e => e)⟩
      · have hr1 : (rc != 0) = true := by simpa using hr0
        have HNO := Lib.hid (LoadOk.no (fill_nm (v := v) (by rw [← HX3.out]; exact HBD.out (by rw [HAD.out, if_neg hr0]))))
        clear hr0
        first | refine takeL 12 ?_ | refine takeU 12 ?_
        refine wpAnyH_done (by kernel_rfl) ?_ _
        clear hHeld
        go_wp2_with fail
        go_ret
        exact FlPost.no HNO.out (by rw [← HW0.out]; exact HF6.out.fr)
    · obtain rfl : i = x.nl.length := by omega
      have HN : Hid (v.nl.foldlM addF tr0.n = some n) := Lib.hid (by have := HFO.out; rw [List.take_length, HX3.out] at this; exact this)
      have HA : Hid (FillA v n) := Lib.hid ⟨fun h => (by have h0 := HN01.out; have h1 := HR.out; rcases h with h | h | h; exact absurd h (by omega); exact absurd h (by omega); exact h h1.symm), HN.out⟩
      have HNL := Lib.hid (show n.m.length ≤ 100000 from Nat.le_trans (names_ok HN.out).2 (by rw [← HX3.out]; exact HFr.out.2.ok.n1))
      clear hi hlt HFO hnok HN HR HN01
      obtain ⟨b0, k0, k1, k2, k3, k4⟩ := HK.out _ _ _ HFr.out
      have hxl := cell_lt k0
      obtain ⟨ha, hha⟩ : ∃ ha, ha = x.ha := ⟨_, rfl⟩
      rw [← hha] at k4
      have HHA := Lib.hid hha
      obtain ⟨W2, hW2⟩ : ∃ W2, W2 = wr.alloc (.map #[] 0) := ⟨_, rfl⟩
      have hB2 : Below wr.heap.size wr W2 := by rw [hW2]; exact belC (Below.refl _ _)
      have hz2 : W2.heap.size = wr.heap.size + 1 := by rw [hW2]; simp
      have hmp : MpAt W2 wr.heap.size iV iV ([] : List (Int × Int)) := by rw [hW2]; exact ⟨#[], 0, alloc_new _ _, rfl, List.nodup_nil, List.Pairwise.nil, fun e h => by simp at h⟩
      obtain ⟨mz, hmz⟩ : ∃ mz, mz = wr.heap.size := ⟨_, rfl⟩
      have HMZL : Hid (lo ≤ mz ∧ xb ≠ mz) := Lib.hid (by rw [hmz]; exact ⟨HFr.out.1.lw, by omega⟩)
      have HF3 : Hid (FlA lo (fun k => k = xb ∨ k = mz) w0 b tb hb ob mb ib nb xb x ⟨⟨tabOf v.ik v.m, n⟩, hd0, [], 0⟩ W2) := Lib.hid ⟨HFr.out.1.more hB2 (fun k hk => hk.imp id fun e => ⟨by omega, by omega⟩), (HFr.out.2.below hB2).to (Or.inl rfl)⟩
      rw [← hmz] at hmp
      have HMZ := Lib.hid hmz
      have HMP := Lib.hid hmp
      have HW2 := Lib.hid hW2
      clear hmz hmp hW2 hha hB2 hz2 HFr
      go_wp2_with fail
      rw [← HW2.out, ← HMZ.out]
      clear b0 k0 k1 k2 k3 k4 hxl HW2 HMZ
      go_loopg [61] x.hl.length (fun g s wr => HlRel lo (fun k => k = xb ∨ k = mz) w0 b tb hb ob mb ib nb xb mz x ⟨tabOf v.ik v.m, n⟩ g s wr)
      case atStart => exact ⟨0, (hd0, []), rfl, Nat.zero_le _, rfl, rfl, HF3.out, HMP.out⟩
      case round =>
        obtain ⟨i, q, rfl, hi, rfl, hfo, hF, hmp⟩ := hrel
        have HQL := Lib.hid (hdls_len hfo)
        have HCN := Lib.hid (cnt_le _ _ _ 0 (Int.le_refl _) (fun p hp => by cases hp) hfo)
        have HFO := Lib.hid hfo
        have HFr := Lib.hid hF
        have HMP := Lib.hid hmp
        clear hfo hF hmp HF3
        by_cases hlt : i < x.hl.length
        · obtain ⟨bk, off, hba, -, hbl, hc⟩ := HFr.out.2.ok.hdl.elem hdC_len default hlt
          rw [← HHA.out] at hba
          subst hba
          have HST := Lib.hid (foldM_step default hlt HFO.out)
          have HBD : Hid (opnF (tabOf v.ik v.m) q (x.hl.getD i default) = none → x.hl.foldlM (opnF (tabOf v.ik v.m)) (hd0, []) = none) := Lib.hid (fun h => foldM_bad default hlt HFO.out h)
          have hil2 : (0 : Int) ≤ i ∧ (i : Int) < x.hl.length := by omega
          have HI1 := Lib.hid (show i + 1 ≤ x.hl.length from hlt)
          have HMS := Lib.hid (show x.hl.length - (i + 1) < x.hl.length - i from Nat.sub_lt_sub_left hlt (Nat.lt_succ_self i))
          have HLE := Lib.hid (show i ≤ 100000 from Nat.le_trans hi HFr.out.2.ok.h1)
          have hwr1 := Lib.hid (show wrap64 ((i : Int) + 1) = ((i + 1 : Nat) : Int) by have := HLE.out; unfold wrap64; omega)
          have HQL2 : Hid (q.1.m.length ≤ 100000) := Lib.hid (Nat.le_trans HQL.out (Nat.le_trans (List.length_take_le _ _) HLE.out))
          have HV0 : Hid (∀ j, 0 ≤ val0 q.2 j ∧ val0 q.2 j ≤ 100000) := Lib.hid (fun j => by
            have h1 := HLE.out
            have h2 := val0_le HCN.out (by omega) j
            have h3 := List.length_take_le i x.hl
            omega)
          generalize x.hl.getD i default = ent at *
          obtain ⟨⟨ec, en⟩, ei⟩ := ent
          obtain ⟨qh, qc⟩ := q
          have f0 : wr.cell? ⟨bk, off + i * 3, none⟩ = some (.int .i64 ec) := hc 0 (by decide)
          have f1 : wr.cell? ⟨bk, off + i * 3 + 1, none⟩ = some (.int .i64 en) := hc 1 (by decide)
          have f2 : wr.cell? ⟨bk, off + i * 3 + 2, none⟩ = some (.int .i64 ei) := hc 2 (by decide)
          have hbl' := cell_lt f0
          clear hc hlt hbl hi HCN HQL HFO
          obtain ⟨W5, hW5⟩ : ∃ W5, W5 = wr.alloc (.cells #[.int .i64 ec, .int .i64 en, .int .i64 ei] 108) := ⟨_, rfl⟩
          have hB5 : Below wr.heap.size wr W5 := by rw [hW5]; exact belC (Below.refl _ _)
          have e0 : W5.cell? ⟨wr.heap.size, 0, none⟩ = some (.int .i64 ec) := by rw [hW5]; go_simp
          have e1 : W5.cell? ⟨wr.heap.size, 1, none⟩ = some (.int .i64 en) := by rw [hW5]; go_simp
          have e2 : W5.cell? ⟨wr.heap.size, 2, none⟩ = some (.int .i64 ei) := by rw [hW5]; go_simp
          have k0 := (HFr.out.1.below hB5).keys.1
          have HW5 := Lib.hid hW5
          have HB5 := Lib.hid hB5
          clear hW5 hB5
          go_wp2_with fail
          rw [← HW5.out]
          have hBd : Below W5.heap.size W5 W5.drew := by exact belC (Below.refl _ _)
          obtain ⟨Wz, hWz⟩ : ∃ Wz, Wz = (W5.alloc (.cells #[.int .i64 0, .int .i64 0, .int .i64 0, .int .i64 0] 197)).drew := ⟨_, rfl⟩
          have hBz : Below W5.heap.size W5 Wz := by rw [hWz]; exact belC (Below.refl _ _)
          have hFd := HFr.out.1.below (HB5.out.trans (hBd.mono HB5.out.size))
          have hFz := HFr.out.1.below (HB5.out.trans (hBz.mono HB5.out.size))
          have hin3 := inodes_is W5.drew tb ib hFd.t0
          have hin4 := inodes_is Wz tb ib hFz.t0
          have hst3 := hFd.stat ei
          have hst4 := hFz.stat ei
          have z0 : Wz.cell? ⟨W5.heap.size, 0, none⟩ = some (.int .i64 0) := by rw [hWz]; go_simp
          have z1 : Wz.cell? ⟨W5.heap.size, 1, none⟩ = some (.int .i64 0) := by rw [hWz]; go_simp
          have z2 : Wz.cell? ⟨W5.heap.size, 2, none⟩ = some (.int .i64 0) := by rw [hWz]; go_simp
          have z3 : Wz.cell? ⟨W5.heap.size, 3, none⟩ = some (.int .i64 0) := by rw [hWz]; go_simp
          have v0 : Wz.frozen? ⟨W5.heap.size, 0, none⟩ = false := by rw [hWz]; go_simp
          have v1 : Wz.frozen? ⟨W5.heap.size, 1, none⟩ = false := by rw [hWz]; go_simp
          have v2 : Wz.frozen? ⟨W5.heap.size, 2, none⟩ = false := by rw [hWz]; go_simp
          have v3 : Wz.frozen? ⟨W5.heap.size, 3, none⟩ = false := by rw [hWz]; go_simp
          have hKz : Wz.cell? ⟨b, 0, none⟩ = some (.pointer (some ⟨tb, 0, none⟩)) ∧ Wz.cell? ⟨wr.heap.size, 2, none⟩ = some (.int .i64 ei) := ⟨below_at hBz k0 (cell_lt k0), below_at hBz e2 (cell_lt e2)⟩
          have HBz := Lib.hid hBz
          have HBd := Lib.hid hBd
          clear hBz hBd hFd hFz
          rw [hWz] at hst4 hKz hin4
          simp only at hst3 hst4
          obtain ⟨⟨y0, y1, y2, y3, y4, yp⟩, hy⟩ : ∃ y, y = (tabOf v.ik v.m).at ei := ⟨_, rfl⟩
          obtain ⟨hs, hhs⟩ : ∃ hs, hs = (tabOf v.ik v.m).has ei := ⟨_, rfl⟩
          obtain ⟨⟨rc, rh⟩, hrr⟩ : ∃ r, r = qh.opn ec en ei := ⟨_, rfl⟩
          have HOP : Hid (opnF (tabOf v.ik v.m) (qh, qc) ((ec, en), ei) = if hs = true ∧ y1 = 2 ∧ rc = 0 then some (rh, set qc ei (val0 qc ei + 1)) else none) := Lib.hid (by unfold opnF; simp only; rw [← hy, ← hhs, ← hrr])
          rw [← hy, ← hhs] at hst3 hst4
          simp only [statV] at hst3 hst4
          have HRR := Lib.hid hrr
          have hKd : W5.drew.cell? ⟨b, 0, none⟩ = some (.pointer (some ⟨tb, 0, none⟩)) ∧ W5.drew.cell? ⟨wr.heap.size, 2, none⟩ = some (.int .i64 ei) := ⟨k0, e2⟩
          have hlk := cell_lt k0
          have hlg := cell_lt e2
          have E0 := Lib.hid e0
          have E1 := Lib.hid e1
          have E2 := Lib.hid e2
          clear hy hhs hrr e0 e1 e2 f0 f1 f2
          go_region_held3 (fun W' => W'.cell? ⟨b, 0, none⟩ = some (.pointer (some ⟨tb, 0, none⟩)) ∧ W'.cell? ⟨wr.heap.size, 2, none⟩ = some (.int .i64 ei))
            (first
              | with_reducible exact hKd
              | with_reducible exact hK2
              | with_reducible exact hK3 _
              | with_reducible exact hKz
              | with_reducible exact hKm
              | with_reducible exact hKn _ _ _ _)
            (first
              | (go_at_call 49; (with_reducible refine hin3.mono ?_); rintro e w6 ⟨rfl, hw6⟩; obtain rfl := hw6.symm)
              | (go_at_call 49; (with_reducible refine hin4.mono ?_); rintro e w6 ⟨rfl, hw6⟩; obtain rfl := hw6.symm)
              | (go_at_call 92; (with_reducible refine hst3.mono ?_); rintro e w6 ⟨rfl, hB6⟩
                 have hK2 : w6.cell? ⟨b, 0, none⟩ = some (.pointer (some ⟨tb, 0, none⟩)) ∧ w6.cell? ⟨wr.heap.size, 2, none⟩ = some (.int .i64 ei) := ⟨below_at hB6 k0 hlk, below_at hB6 E2.out hlg⟩
                 have m0 := cell_lt hK2.1
                 have m2 := cell_lt hK2.2
                 have hK3 : ∀ o, (w6.alloc o).cell? ⟨b, 0, none⟩ = some (.pointer (some ⟨tb, 0, none⟩)) ∧ (w6.alloc o).cell? ⟨wr.heap.size, 2, none⟩ = some (.int .i64 ei) := fun o => ⟨(cell_alloc_lt _ _ _ _ m0).trans hK2.1, (cell_alloc_lt _ _ _ _ m2).trans hK2.2⟩
                 have HB6 := Lib.hid (HBd.out.trans hB6)
                 clear hB6)
              | (go_at_call 92; (with_reducible refine hst4.mono ?_); rintro e w6 ⟨rfl, hB6⟩
                 rw [← hWz] at hB6 hKz
                 have hKm : w6.cell? ⟨b, 0, none⟩ = some (.pointer (some ⟨tb, 0, none⟩)) ∧ w6.cell? ⟨wr.heap.size, 2, none⟩ = some (.int .i64 ei) := ⟨below_at hB6 hKz.1 (cell_lt hKz.1), below_at hB6 hKz.2 (cell_lt hKz.2)⟩
                 have n0 := below_at hB6 z0 (cell_lt z0)
                 have n1 := below_at hB6 z1 (cell_lt z1)
                 have n2 := below_at hB6 z2 (cell_lt z2)
                 have n3 := below_at hB6 z3 (cell_lt z3)
                 have u0 := (hB6.frozen (p := ⟨W5.heap.size, 0, none⟩) (cell_lt z0)).trans v0
                 have u1 := (hB6.frozen (p := ⟨W5.heap.size, 1, none⟩) (cell_lt z0)).trans v1
                 have u2 := (hB6.frozen (p := ⟨W5.heap.size, 2, none⟩) (cell_lt z0)).trans v2
                 have u3 := (hB6.frozen (p := ⟨W5.heap.size, 3, none⟩) (cell_lt z0)).trans v3
                 have hln := cell_lt n0
                 have hKn : ∀ a0 a1 a2 a3, ((((w6.setCell ⟨W5.heap.size, 0, none⟩ a0).setCell ⟨W5.heap.size, 1, none⟩ a1).setCell ⟨W5.heap.size, 2, none⟩ a2).setCell ⟨W5.heap.size, 3, none⟩ a3).cell? ⟨b, 0, none⟩ = some (.pointer (some ⟨tb, 0, none⟩)) ∧ ((((w6.setCell ⟨W5.heap.size, 0, none⟩ a0).setCell ⟨W5.heap.size, 1, none⟩ a1).setCell ⟨W5.heap.size, 2, none⟩ a2).setCell ⟨W5.heap.size, 3, none⟩ a3).cell? ⟨wr.heap.size, 2, none⟩ = some (.int .i64 ei) := fun _ _ _ _ => ⟨by go_simp, by go_simp⟩
                 have HB6 := Lib.hid (HBz.out.trans (hB6.mono HBz.out.size))
                 clear hB6))
          all_goals
            have hz65 := HB6.out.size
            have hzw5 : wr.heap.size < W5.heap.size := cell_lt E0.out
            first
            | (obtain ⟨Wf, hWf⟩ : ∃ Wf, Wf = ((((w6.setCell ⟨W5.heap.size, 0, none⟩ (.int .i64 y0)).setCell ⟨W5.heap.size, 1, none⟩ (.int .i64 y1)).setCell ⟨W5.heap.size, 2, none⟩ (.int .i64 y2)).setCell ⟨W5.heap.size, 3, none⟩ (.int .i64 y4)) := ⟨_, rfl⟩
               rw [← hWf]
               have hyl : wr.heap.size ≤ W5.heap.size ∧ W5.heap.size < Wf.heap.size := by rw [hWf]; simp; omega
               have s1 : Wf.cell? ⟨W5.heap.size, 1, none⟩ = some (.int .i64 y1) := by rw [hWf]; go_simp
               obtain ⟨yb, hyb⟩ : ∃ yb, yb = W5.heap.size := ⟨_, rfl⟩
               rw [← hyb] at hyl s1 ⊢
               have hBf : Below W5.heap.size W5 Wf := by rw [hWf]; exact belC HB6.out)
            | (obtain ⟨Wf, hWf⟩ : ∃ Wf, Wf = w6.alloc (.cells #[.int .i64 y0, .int .i64 y1, .int .i64 y2, .int .i64 y4] 197) := ⟨_, rfl⟩
               rw [← hWf]
               have hyl : wr.heap.size ≤ w6.heap.size ∧ w6.heap.size < Wf.heap.size := by rw [hWf]; simp; omega
               have s1 : Wf.cell? ⟨w6.heap.size, 1, none⟩ = some (.int .i64 y1) := by rw [hWf]; go_simp
               obtain ⟨yb, hyb⟩ : ∃ yb, yb = w6.heap.size := ⟨_, rfl⟩
               rw [← hyb] at hyl s1 ⊢
               have hBf : Below W5.heap.size W5 Wf := by rw [hWf]; exact belC HB6.out)
            clear hWf hyb
            have hB7 : Below W5.heap.size W5 Wf.drew := by exact belC hBf
            have hBr7 := HB5.out.trans (hB7.mono HB5.out.size)
            have HF7 := Lib.hid (HFr.out.1.more (Y := fun k => k = xb ∨ (k = mz ∨ (wr.heap.size ≤ k ∧ k < Wf.heap.size))) hBr7 (fun k hk => hk.elim (fun e => Or.inl (Or.inl e)) (fun e => e.elim (fun e => Or.inl (Or.inr e)) Or.inr)))
            have HKP7 := Lib.hid ((HFr.out.2.below hBr7).to (Y := fun k => k = xb ∨ (k = mz ∨ (wr.heap.size ≤ k ∧ k < Wf.heap.size))) (Or.inl rfl))
            have HMP7 := Lib.hid (HMP.out.mod (F := none') (Mod.of_below hBr7) id)
            have HS7 := Lib.hid (show _ ∧ _ ∧ _ ∧ _ ∧ _ from ⟨HF7.out.keys.2.1, below_at hB7 E0.out hzw5, below_at hB7 E1.out hzw5, below_at hB7 E2.out hzw5, (show Wf.drew.cell? ⟨yb, 1, none⟩ = some (.int .i64 y1) from s1)⟩)
            have HYL := Lib.hid hyl
            have HZW := Lib.hid (show wr.heap.size ≤ wr.heap.size ∧ wr.heap.size < Wf.heap.size from ⟨Nat.le_refl _, Nat.lt_of_lt_of_le hzw5 hBf.size⟩)
            have hop := HF7.out.hopn ec en ei HQL2.out
            simp only at hop
            rw [← HRR.out] at hop
            simp only at hop
            have HHO := Lib.hid hop
            clear hop hB7 hBr7 hBf hyl s1 hz65 hzw5 hKd hlk hlg k0
            go_wp2_with fail
            refine wp_region_held_drew (S := fun W' => W'.cell? ⟨b, 1, none⟩ = some (.pointer (some ⟨hb, 0, none⟩)) ∧ W'.cell? ⟨wr.heap.size, 0, none⟩ = some (.int .i64 ec) ∧ W'.cell? ⟨wr.heap.size, 1, none⟩ = some (.int .i64 en) ∧ W'.cell? ⟨wr.heap.size, 2, none⟩ = some (.int .i64 ei) ∧ W'.cell? ⟨yb, 1, none⟩ = some (.int .i64 y1)) (by kernel_rfl) HS7.out (fun hHeld => ?_)
            have HNB : Hid (¬ (hs = true ∧ y1 = 2 ∧ rc = 0) → ¬ ∃ s, LoadOk v s) := Lib.hid (fun h => LoadOk.no (HA.out.hl (by rw [← HX4.out]; exact HBD.out (by rw [HOP.out, if_neg h]))))
            cases hs
            · have HNO := Lib.hid (HNB.out (fun h => by cases h.1))
              first | refine takeL 0 ?_ | refine takeU 0 ?_
              first | refine takeL 1 ?_ | refine takeU 1 ?_
              first | refine takeL 2 ?_ | refine takeU 2 ?_
              first | refine takeL 3 ?_ | refine takeU 3 ?_
              first | refine takeL 4 ?_ | refine takeU 4 ?_
              first | refine takeL 5 ?_ | refine takeU 5 ?_
              first | refine takeL 6 ?_ | refine takeU 6 ?_
              first | refine takeL 7 ?_ | refine takeU 7 ?_
              first | refine takeL 8 ?_ | refine takeU 8 ?_
              first | refine takeL 9 ?_ | refine takeU 9 ?_
              first | refine takeL 10 ?_ | refine takeU 10 ?_
              first | refine takeL 11 ?_ | refine takeU 11 ?_
              first | refine takeL 12 ?_ | refine takeU 12 ?_
              first | refine takeL 13 ?_ | refine takeU 13 ?_
              first | refine takeL 14 ?_ | refine takeU 14 ?_
              first | refine takeL 15 ?_ | refine takeU 15 ?_
              first | refine takeL 16 ?_ | refine takeU 16 ?_
              first | refine takeL 17 ?_ | refine takeU 17 ?_
              first | refine takeL 18 ?_ | refine takeU 18 ?_
              first | refine takeL 19 ?_ | refine takeU 19 ?_
              first | refine takeL 20 ?_ | refine takeU 20 ?_
              refine wpAnyH_done (by kernel_rfl) ?_ _
              clear hHeld
              go_wp2_with fail
              go_ret
              exact FlPost.no HNO.out (by rw [← HW0.out]; exact HF7.out.fr)
            by_cases hy1 : y1 = 2
            rotate_left 1
            · have hy2 : (y1 != 2) = true := by simpa using hy1
              have HNO := Lib.hid (HNB.out (fun h => hy1 h.2.1))
              clear hy1
              first | refine takeL 0 ?_ | refine takeU 0 ?_
              first | refine takeL 1 ?_ | refine takeU 1 ?_
              first | refine takeL 2 ?_ | refine takeU 2 ?_
              first | refine takeL 3 ?_ | refine takeU 3 ?_
              first | refine takeL 4 ?_ | refine takeU 4 ?_
              first | refine takeL 5 ?_ | refine takeU 5 ?_
              first | refine takeL 6 ?_ | refine takeU 6 ?_
              first | refine takeL 7 ?_ | refine takeU 7 ?_
              first | refine takeL 8 ?_ | refine takeU 8 ?_
              first | refine takeL 9 ?_ | refine takeU 9 ?_
              first | refine takeL 10 ?_ | refine takeU 10 ?_
              first | refine takeL 11 ?_ | refine takeU 11 ?_
              first | refine takeL 12 ?_ | refine takeU 12 ?_
              first | refine takeL 13 ?_ | refine takeU 13 ?_
              first | refine takeL 14 ?_ | refine takeU 14 ?_
              first | refine takeL 15 ?_ | refine takeU 15 ?_
              first | refine takeL 16 ?_ | refine takeU 16 ?_
              first | refine takeL 17 ?_ | refine takeU 17 ?_
              first | refine takeL 18 ?_ | refine takeU 18 ?_
              first | refine takeL 19 ?_ | refine takeU 19 ?_
              first | refine takeL 20 ?_ | refine takeU 20 ?_
              refine wpAnyH_done (by kernel_rfl) ?_ _
              clear hHeld
              go_wp2_with fail
              go_ret
              exact FlPost.no HNO.out (by rw [← HW0.out]; exact HF7.out.fr)
            subst hy1
            first | refine takeL 0 ?_ | refine takeU 0 ?_
            first | refine takeL 1 ?_ | refine takeU 1 ?_
            first | refine takeL 2 ?_ | refine takeU 2 ?_
            first | refine takeL 3 ?_ | refine takeU 3 ?_
            first | refine takeL 4 ?_ | refine takeU 4 ?_
            first | refine takeL 5 ?_ | refine takeU 5 ?_
            first | refine takeL 6 ?_ | refine takeU 6 ?_
            first | refine takeL 7 ?_ | refine takeU 7 ?_
            first | refine takeL 8 ?_ | refine takeU 8 ?_
            first | refine takeL 9 ?_ | refine takeU 9 ?_
            first | refine takeL 10 ?_ | refine takeU 10 ?_
            first | refine takeL 11 ?_ | refine takeU 11 ?_
            first | refine takeL 12 ?_ | refine takeU 12 ?_
            first | refine takeL 13 ?_ | refine takeU 13 ?_
            first | refine takeL 14 ?_ | refine takeU 14 ?_
            first | refine takeL 15 ?_ | refine takeU 15 ?_
            first | refine takeL 16 ?_ | refine takeU 16 ?_
            first | refine takeL 17 ?_ | refine takeU 17 ?_
            refine wpAnyH_ready (rs := [18]) (by kernel_rfl) (by simp) ?_
            refine AllReadyH.cons (o := _) rfl (fun K hK => ?_) AllReadyH.nil
            go_simp
            refine HHO.out.mono ?_
            rintro e w8 ⟨rfl, hM8, hF8⟩
            have HM8 := Lib.hid hM8
            have HF8 := Lib.hid hF8
            clear hM8 hF8
            have hY : ∀ k, wr.heap.size ≤ k → k < Wf.heap.size → ¬ FO lo (fun k => k = xb ∨ (k = mz ∨ (wr.heap.size ≤ k ∧ k < Wf.heap.size))) k := fun k h1 h2 e => e.2 (Or.inr (Or.inr ⟨h1, h2⟩))
            have HK8 := Lib.hid (show _ ∧ _ ∧ _ ∧ _ ∧ _ from ⟨HF8.out.keys.2.1, HM8.out.at hHeld.2.1 (hY _ HZW.out.1 HZW.out.2), HM8.out.at hHeld.2.2.1 (hY _ HZW.out.1 HZW.out.2), HM8.out.at hHeld.2.2.2.1 (hY _ HZW.out.1 HZW.out.2), HM8.out.at hHeld.2.2.2.2 (hY _ HYL.out.1 HYL.out.2)⟩)
            clear hY
            try go_wp2_with fail
            refine hK.out _ _ HK8.out (fun hHeld => ?_)
            clear hK K
            try simp only [Act.put, List.setIfInBounds_toArray, List.set_cons_zero, List.set_cons_succ]
            by_cases hr0 : rc = 0
            rotate_left 1
            · have hr1 : (rc != 0) = true := by simpa using hr0
              have HNO := Lib.hid (HNB.out (fun h => hr0 h.2.2))
              clear hr0
              first | refine takeL 19 ?_ | refine takeU 19 ?_
              first | refine takeL 20 ?_ | refine takeU 20 ?_
              refine wpAnyH_done (by kernel_rfl) ?_ _
              clear hHeld
              go_wp2_with fail
              go_ret
              exact FlPost.no HNO.out (by rw [← HW0.out]; exact HF8.out.fr)
            subst hr0
            first | refine takeL 19 ?_ | refine takeU 19 ?_
            first | refine takeL 20 ?_ | refine takeU 20 ?_
            refine wpAnyH_done (by kernel_rfl) ?_ _
            clear hHeld
            have HMP8 := Lib.hid (HMP7.out.mod HM8.out (fun e => e.2 (Or.inr (Or.inl rfl))))
            have e28 := HK8.out.2.2.2.1
            have hlk := look0 HMP8.out keyInt Tryz.underlying195 zeroI ei
            obtain ⟨W9, hu9, hm9, hM9, hz9⟩ := MapAt.upz HMP8.out keyInt Tryz.underlying195 ei (val0 qc ei + 1)
            simp only [iV] at hu9
            have hv0 : wrap64 (val0 qc ei + 1) = val0 qc ei + 1 := by have := HV0.out ei; unfold wrap64; omega
            have HMP9 := Lib.hid hm9
            have HF9 := Lib.hid (HF8.out.side hM9 (fun k hk => ⟨Or.inr (Or.inl hk), by rw [show k = mz from hk]; exact HMZL.out.1⟩))
            have HKP9 := Lib.hid ((HKP7.out.mod HM8.out (fun k e => e)).oth hM9 (fun k hk => by rw [show k = mz from hk]; exact ⟨HMZL.out.1, fun e => HMZL.out.2 e.symm⟩))
            clear hm9 hM9 hz9
            go_wp2_with fail
            go_roundg (x.hl.length - (i + 1))
            case measure => exact HMS.out
            case rel => exact ⟨i + 1, (rh, set qc ei (val0 qc ei + 1)), rfl, HI1.out, by first | rfl | rw [hwr1.out], by rw [HST.out, HOP.out]; simp, ⟨HF9.out.less (fun k e => e.elim Or.inl (fun e => Or.inr (Or.inl e))), HKP9.out.to (Or.inl rfl)⟩, HMP9.out⟩
        · obtain rfl : i = x.hl.length := by omega
          have HQ : Hid (v.hl.foldlM (opnF (tabOf v.ik v.m)) (hd0, []) = some q) := Lib.hid (by have := HFO.out; rw [List.take_length, HX4.out] at this; exact this)
          have HHL : Hid (q.1.m.length ≤ 100000) := Lib.hid (Nat.le_trans (hdls_len HQ.out) (by rw [← HX4.out]; exact HFr.out.2.ok.h1))
          obtain ⟨qh, qc⟩ := q
          have HB : Hid (FillB v n (qh, qc)) := Lib.hid ⟨HA.out, HQ.out⟩
          clear hi hlt HFO HQ HQL HCN HA
          have hin := inodes_is wr tb ib HFr.out.1.t0
          have hal := HFr.out.1.all HIK.out
          have b0 := HFr.out.1.keys.1
          go_wp2_with fail
          refine hin.mono ?_
          clear hin
          rintro e w2 ⟨rfl, hw2⟩
          subst hw2
          go_wp2_with fail
          refine hal.mono ?_
          clear hal
          rintro e w3 ⟨ra, rcp, rfl, hN, -, hB3⟩
          obtain ⟨l, hl⟩ : ∃ l, l = sortI ((tabOf v.ik v.m).m.map (·.1)) := ⟨_, rfl⟩
          try simp only at hN
          try simp only
          rw [← hl] at hN ⊢
          have HN := Lib.hid hN
          have HL := Lib.hid hl
          have HF3 := Lib.hid (show FlA _ _ _ _ _ _ _ _ _ _ _ _ _ _ from ⟨HFr.out.1.below hB3, HFr.out.2.below hB3⟩)
          have HM3 := Lib.hid (HMP.out.mod (F := none') (Mod.of_below hB3) id)
          have HLL : Hid (l.length ≤ 100000) := Lib.hid (by rw [hl]; unfold sortI; rw [List.length_mergeSort, List.length_map]; exact HIK.out)
          clear hN hl hB3 b0 HFr HMP
          go_wp2_with fail
          go_loopg [110] l.length (fun g s wr => AlRel l (tabOf v.ik v.m) qc w3 g s wr)
          case atStart => exact ⟨0, rfl, Nat.zero_le _, rfl, fun j hj => absurd hj (Nat.not_lt_zero j), Below.refl _ _⟩
          case round =>
            obtain ⟨i, rfl, hi, rfl, heq, hB⟩ := hrel
            have HEQ := Lib.hid heq
            have HBr := Lib.hid hB
            clear heq hB
            by_cases hlt : i < l.length
            · obtain ⟨bk, off, hba, -, hbl, hc⟩ := HN.out (by omega)
              subst hba
              have f0 := below_at HBr.out (hc i hlt) hbl
              have hbl' := cell_lt f0
              have hil2 : (0 : Int) ≤ i ∧ (i : Int) < l.length := by omega
              have HI1 := Lib.hid (show i + 1 ≤ l.length from hlt)
              have HMS := Lib.hid (show l.length - (i + 1) < l.length - i from Nat.sub_lt_sub_left hlt (Nat.lt_succ_self i))
              have hwr1 := Lib.hid (show wrap64 ((i : Int) + 1) = ((i + 1 : Nat) : Int) by have := HLL.out; unfold wrap64; omega)
              have HBAD : Hid (((tabOf v.ik v.m).at (l.getD i 0)).opens ≠ val0 qc (l.getD i 0) → ¬ ∃ s, LoadOk v s) := Lib.hid (fun h => LoadOk.no (HB.out.cmp (cmp_bad HL.out hlt h)))
              have HNX : Hid (((tabOf v.ik v.m).at (l.getD i 0)).opens = val0 qc (l.getD i 0) → ∀ j, j < i + 1 → ((tabOf v.ik v.m).at (l.getD j 0)).opens = val0 qc (l.getD j 0)) := Lib.hid (fun h j hj => by
                by_cases e : j = i
                · rw [e]; exact h
                · exact HEQ.out j (by omega))
              have HFr : Hid (FlA _ _ _ _ _ _ _ _ _ _ _ _ _ wr) := Lib.hid ⟨HF3.out.1.below HBr.out, HF3.out.2.below HBr.out⟩
              have HMPr := Lib.hid (HM3.out.mod (F := none') (Mod.of_below HBr.out) id)
              generalize l.getD i 0 = ino at *
              have hop := fun W (hB : Below wr.heap.size wr W) => (HFr.out.1.below hB).opens ino
              simp only at hop
              generalize ((tabOf v.ik v.m).at ino).opens = y at *
              have HOP := Lib.hid hop
              have HLK : Hid (∀ W, Below wr.heap.size wr W → (Instr.lookup 195 (.map (some mz)) (.int .i64 ino) false).run Tryz.prog W = .ok (.int .i64 (val0 qc ino)) W) := Lib.hid (fun W hB => look0 (HMPr.out.mod (F := none') (Mod.of_below hB) id) keyInt Tryz.underlying195 zeroI ino)
              generalize val0 qc ino = z at *
              clear hc hi hlt hop hbl
              go_wp2_with fail
              have hBd : Below wr.heap.size wr wr.drew := by exact belC (Below.refl _ _)
              have hin := inodes_is wr.drew tb ib (HFr.out.1.below hBd).t0
              refine wp_region_held_drew (S := fun W' => W'.cell? ⟨b, 0, none⟩ = some (.pointer (some ⟨tb, 0, none⟩)) ∧ (Instr.lookup 195 (.map (some mz)) (.int .i64 ino) false).run Tryz.prog W' = .ok (.int .i64 z) W') (by kernel_rfl) ⟨(HFr.out.1.below hBd).keys.1, HLK.out _ hBd⟩ (fun hHeld => ?_)
              have HBd := Lib.hid hBd
              clear hBd f0
              first | refine takeL 0 ?_ | refine takeU 0 ?_
              first | refine takeL 1 ?_ | refine takeU 1 ?_
              first | refine takeL 2 ?_ | refine takeU 2 ?_
              first | refine takeL 3 ?_ | refine takeU 3 ?_
              first | refine takeL 5 ?_ | refine takeU 5 ?_
              first | refine takeL 7 ?_ | refine takeU 7 ?_
              first | refine takeL 8 ?_ | refine takeU 8 ?_
              first | refine takeL 9 ?_ | refine takeU 9 ?_
              refine wpAnyH_ready (rs := [4]) (by kernel_rfl) (by simp) ?_
              refine AllReadyH.cons (o := _) rfl (fun K hK => ?_) AllReadyH.nil
              go_simp
              refine hin.mono ?_
              clear hin
              rintro e w5 ⟨rfl, hw5⟩
              subst hw5
              try go_wp2_with fail
              refine hK.out _ _ hHeld (fun hHeld => ?_)
              clear hK K
              try simp only [Act.put, List.setIfInBounds_toArray, List.set_cons_zero, List.set_cons_succ]
              refine wpAnyH_ready (rs := [6]) (by kernel_rfl) (by simp) ?_
              refine AllReadyH.cons (o := _) rfl (fun K hK => ?_) AllReadyH.nil
              go_simp
              refine (HOP.out _ HBd.out).mono ?_
              rintro e w6 ⟨rfl, hB6⟩
              have HB6 := Lib.hid (HBd.out.trans (hB6.mono HBd.out.size))
              clear hB6
              try go_wp2_with fail
              refine hK.out _ _ ⟨(HFr.out.1.below HB6.out).keys.1, HLK.out _ HB6.out⟩ (fun hHeld => ?_)
              clear hK K
              try simp only [Act.put, List.setIfInBounds_toArray, List.set_cons_zero, List.set_cons_succ]
              by_cases hyz : y = z
              · have hyz' : (y != z) = false := by simpa using hyz
                have HE := Lib.hid (HNX.out hyz)
                clear hyz
                first | refine takeL 10 ?_ | refine takeU 10 ?_
                refine wpAnyH_done (by kernel_rfl) ?_ _
                clear hHeld
                go_wp2_with fail
                go_roundg (l.length - (i + 1))
                case measure => exact HMS.out
                case rel => exact ⟨i + 1, rfl, HI1.out, by first | rfl | rw [hwr1.out], HE.out, HBr.out.trans (HB6.out.mono HBr.out.size)⟩
              · have hyz' : (y != z) = true := by simpa using hyz
                have HNO := Lib.hid (HBAD.out hyz)
                clear hyz
                first | refine takeL 10 ?_ | refine takeU 10 ?_
                refine wpAnyH_done (by kernel_rfl) ?_ _
                clear hHeld
                go_wp2_with fail
                go_ret
                exact FlPost.no HNO.out (by rw [← HW0.out]; exact (HFr.out.1.below HB6.out).fr)
            · obtain rfl : i = l.length := by omega
              have HCM := Lib.hid (cmp_ok HL.out HEQ.out)
              have HFr : Hid (FlA lo (· = xb) w0 b tb hb ob mb ib nb xb x ⟨⟨tabOf v.ik v.m, n⟩, qh, [], 0⟩ wr) := Lib.hid ⟨(HF3.out.1.below HBr.out).less (fun k e => Or.inl e), (HF3.out.2.below HBr.out).to rfl⟩
              clear hi hlt HEQ HN HL HLL HM3 HF3 HBr
              go_wp2_with fail
              go_loopg [126] 8 (fun g s wr => RwRel lo (· = xb) w0 b tb hb ob mb ib nb xb x v ⟨tabOf v.ik v.m, n⟩ qh g s wr)
              case atStart => exact ⟨0, (qh, []), rfl, Nat.zero_le _, rfl, rfl, HFr.out⟩
              case round =>
                obtain ⟨i, p, rfl, hi, rfl, hfo, hF⟩ := hrel
                have HFO := Lib.hid hfo
                have HFr := Lib.hid hF
                clear hfo hF
                by_cases hlt : i < 8
                · have hil2 : (0 : Int) ≤ i ∧ (i : Int) < 8 := by omega
                  obtain ⟨ph, po⟩ := p
                  have hwr1 := Lib.hid (show wrap64 ((i : Int) + 1) = ((i + 1 : Nat) : Int) by unfold wrap64; omega)
                  have HLT := Lib.hid hlt
                  have HST := Lib.hid (range_step HFO.out)
                  have HBAD : Hid (rowF v (ph, po) i = none → ¬ ∃ s, LoadOk v s) := Lib.hid (fun h => LoadOk.no (by rw [HB.out.rows HCM.out (range_bad HFO.out h 8 hlt)]; rfl))
                  obtain ⟨xl, hxl⟩ : ∃ y, y = x.l i := ⟨_, rfl⟩
                  obtain ⟨xs, hxs⟩ : ∃ y, y = x.s i := ⟨_, rfl⟩
                  obtain ⟨r1, hr1⟩ : ∃ y, y = x.r (2 * i) := ⟨_, rfl⟩
                  obtain ⟨r2, hr2⟩ : ∃ y, y = x.r (2 * i + 1) := ⟨_, rfl⟩
                  obtain ⟨⟨rc, rh⟩, hrr⟩ : ∃ r, r = ph.renew i xl := ⟨_, rfl⟩
                  have HRF : Hid (rowF v (ph, po) i = if rc = 0 ∧ 0 ≤ xs ∧ ¬ (xs = 0 ∧ (r1, r2) ≠ (0, 0)) then some (rh, if 0 < xs then (onote po i xs (r1, r2)).2 else po) else none) := Lib.hid (by
                    obtain ⟨a, b', c, d⟩ := HX6.out i hlt
                    have hr0 : (v.rows.getD i default).2 = (r1, r2) := by rw [hr1, hr2, c, d]
                    unfold rowF
                    simp only
                    rw [← a, ← b', hr0, ← hxl, ← hxs, ← hrr])
                  have HKR : Hid (∀ W s, FlA lo (· = xb) w0 b tb hb ob mb ib nb xb x s W → (W.cell? ⟨b, 1, none⟩ = some (.pointer (some ⟨hb, 0, none⟩)) ∧ W.cell? ⟨xb, 5 + i, none⟩ = some (.int .i64 xl) ∧ W.cell? ⟨xb, 13 + i, none⟩ = some (.int .i64 xs) ∧ W.cell? ⟨xb, 21 + i * 2, none⟩ = some (.int .i64 r1) ∧ W.cell? ⟨xb, 21 + i * 2 + 1, none⟩ = some (.int .i64 r2))) := Lib.hid (fun W s h => ⟨h.1.keys.2.1, by rw [hxl, hxs, hr1, hr2]; exact h.2.row i hlt⟩)
                  have hBd : Below wr.heap.size wr wr.drew := by exact belC (Below.refl _ _)
                  have HFd : Hid (FlA lo (· = xb) w0 b tb hb ob mb ib nb xb x ⟨⟨tabOf v.ik v.m, n⟩, ph, po, 0⟩ wr.drew) := Lib.hid ⟨HFr.out.1.below hBd, HFr.out.2.below hBd⟩
                  have hrn := HFd.out.1.renew i xl
                  simp only at hrn
                  rw [← hrr] at hrn
                  have hne := fun W => neqRes W r1 r2
                  have hgd := fun op a b W => run_eqGuard_agg (P := Tryz.prog) W op 29 a b #[.int .i64 r1, .int .i64 r2] #[.int .i64 0, .int .i64 0] (by kernel_rfl)
                  clear hxl hxs hr1 hr2 hrr hBd hi hlt HFO
                  go_wp2_with fail
                  refine wp_region_held_drew (S := fun W' => W'.cell? ⟨b, 1, none⟩ = some (.pointer (some ⟨hb, 0, none⟩)) ∧ W'.cell? ⟨xb, 5 + i, none⟩ = some (.int .i64 xl) ∧ W'.cell? ⟨xb, 13 + i, none⟩ = some (.int .i64 xs) ∧ W'.cell? ⟨xb, 21 + i * 2, none⟩ = some (.int .i64 r1) ∧ W'.cell? ⟨xb, 21 + i * 2 + 1, none⟩ = some (.int .i64 r2)) (by kernel_rfl) (HKR.out _ _ HFd.out) (fun hHeld => ?_)
                  first | refine takeL 0 ?_ | refine takeU 0 ?_
                  first | refine takeL 1 ?_ | refine takeU 1 ?_
                  first | refine takeL 2 ?_ | refine takeU 2 ?_
                  first | refine takeL 3 ?_ | refine takeU 3 ?_
                  first | refine takeL 4 ?_ | refine takeU 4 ?_
                  first | refine takeL 5 ?_ | refine takeU 5 ?_
                  first | refine takeL 6 ?_ | refine takeU 6 ?_
                  first | refine takeL 7 ?_ | refine takeU 7 ?_
                  first | refine takeL 8 ?_ | refine takeU 8 ?_
                  refine wpAnyH_ready (rs := [9]) (by kernel_rfl) (by simp) ?_
                  refine AllReadyH.cons (o := _) rfl (fun K hK => ?_) AllReadyH.nil
                  go_simp
                  refine hrn.mono ?_
                  clear hrn
                  rintro e w5 ⟨rfl, hM5, hF5⟩
                  have HF5 : Hid (FlA lo (· = xb) w0 b tb hb ob mb ib nb xb x ⟨⟨tabOf v.ik v.m, n⟩, rh, po, 0⟩ w5) := Lib.hid ⟨hF5, HFd.out.2.mod hM5 (fun k e => e)⟩
                  clear hM5 hF5 HFr HFd
                  try go_wp2_with fail
                  refine hK.out _ _ (HKR.out _ _ HF5.out) (fun hHeld => ?_)
                  clear hK K
                  try simp only [Act.put, List.setIfInBounds_toArray, List.set_cons_zero, List.set_cons_succ]
                  by_cases hr0 : rc = 0
                  rotate_left 1
                  · have hr1 : (rc != 0) = true := by simpa using hr0
                    have HNO := Lib.hid (HBAD.out (by rw [HRF.out, if_neg (fun h => hr0 h.1)]))
                    clear hr0
                    first | refine takeL 10 ?_ | refine takeU 10 ?_
                    first | refine takeL 11 ?_ | refine takeU 11 ?_
                    first | refine takeL 12 ?_ | refine takeU 12 ?_
                    first | refine takeL 13 ?_ | refine takeU 13 ?_
                    first | refine takeL 14 ?_ | refine takeU 14 ?_
                    first | refine takeL 15 ?_ | refine takeU 15 ?_
                    first | refine takeL 16 ?_ | refine takeU 16 ?_
                    first | refine takeL 17 ?_ | refine takeU 17 ?_
                    first | refine takeL 18 ?_ | refine takeU 18 ?_
                    first | refine takeL 19 ?_ | refine takeU 19 ?_
                    first | refine takeL 20 ?_ | refine takeU 20 ?_
                    first | refine takeL 21 ?_ | refine takeU 21 ?_
                    first | refine takeL 22 ?_ | refine takeU 22 ?_
                    first | refine takeL 23 ?_ | refine takeU 23 ?_
                    first | refine takeL 24 ?_ | refine takeU 24 ?_
                    first | refine takeL 25 ?_ | refine takeU 25 ?_
                    first | refine takeL 26 ?_ | refine takeU 26 ?_
                    first | refine takeL 27 ?_ | refine takeU 27 ?_
                    first | refine takeL 28 ?_ | refine takeU 28 ?_
                    first | refine takeL 29 ?_ | refine takeU 29 ?_
                    first | refine takeL 30 ?_ | refine takeU 30 ?_
                    first | refine takeL 31 ?_ | refine takeU 31 ?_
                    first | refine takeL 32 ?_ | refine takeU 32 ?_
                    refine wpAnyH_done (by kernel_rfl) ?_ _
                    clear hHeld
                    go_wp2_with fail
                    go_ret
                    exact FlPost.no HNO.out (by rw [← HW0.out]; exact HF5.out.1.fr)
                  have hr0' : (rc != 0) = false := by simpa using hr0
                  by_cases hx0 : xs < 0
                  · have hx0' : decide (xs < 0) = true := decide_eq_true hx0
                    have HNO := Lib.hid (HBAD.out (by rw [HRF.out, if_neg (fun h => by have := h.2.1; omega)]))
                    clear hr0 hx0
                    first | refine takeL 10 ?_ | refine takeU 10 ?_
                    first | refine takeL 11 ?_ | refine takeU 11 ?_
                    first | refine takeL 12 ?_ | refine takeU 12 ?_
                    first | refine takeL 13 ?_ | refine takeU 13 ?_
                    first | refine takeL 14 ?_ | refine takeU 14 ?_
                    first | refine takeL 15 ?_ | refine takeU 15 ?_
                    first | refine takeL 16 ?_ | refine takeU 16 ?_
                    first | refine takeL 17 ?_ | refine takeU 17 ?_
                    first | refine takeL 18 ?_ | refine takeU 18 ?_
                    first | refine takeL 19 ?_ | refine takeU 19 ?_
                    first | refine takeL 20 ?_ | refine takeU 20 ?_
                    first | refine takeL 21 ?_ | refine takeU 21 ?_
                    first | refine takeL 22 ?_ | refine takeU 22 ?_
                    first | refine takeL 23 ?_ | refine takeU 23 ?_
                    first | refine takeL 24 ?_ | refine takeU 24 ?_
                    first | refine takeL 25 ?_ | refine takeU 25 ?_
                    first | refine takeL 26 ?_ | refine takeU 26 ?_
                    first | refine takeL 27 ?_ | refine takeU 27 ?_
                    first | refine takeL 28 ?_ | refine takeU 28 ?_
                    first | refine takeL 29 ?_ | refine takeU 29 ?_
                    first | refine takeL 30 ?_ | refine takeU 30 ?_
                    first | refine takeL 31 ?_ | refine takeU 31 ?_
                    first | refine takeL 32 ?_ | refine takeU 32 ?_
                    refine wpAnyH_done (by kernel_rfl) ?_ _
                    clear hHeld
                    go_wp2_with fail
                    go_ret
                    exact FlPost.no HNO.out (by rw [← HW0.out]; exact HF5.out.1.fr)
                  have hx0' : decide (xs < 0) = false := decide_eq_false hx0
                  by_cases hx1 : xs = 0
                  · subst hx1
                    by_cases hrz : r1 = 0 ∧ r2 = 0
                    · obtain ⟨rfl, rfl⟩ := hrz
                      have HR1 : Hid (rowF v (ph, po) i = some (rh, po)) := Lib.hid (by rw [HRF.out, hr0]; simp)
                      clear hr0 hx0
                      first | refine takeL 10 ?_ | refine takeU 10 ?_
                      first | refine takeL 11 ?_ | refine takeU 11 ?_
                      first | refine takeL 12 ?_ | refine takeU 12 ?_
                      first | refine takeL 13 ?_ | refine takeU 13 ?_
                      first | refine takeL 14 ?_ | refine takeU 14 ?_
                      first | refine takeL 15 ?_ | refine takeU 15 ?_
                      first | refine takeL 16 ?_ | refine takeU 16 ?_
                      first | refine takeL 17 ?_ | refine takeU 17 ?_
                      first | refine takeL 18 ?_ | refine takeU 18 ?_
                      first | refine takeL 19 ?_ | refine takeU 19 ?_
                      first | refine takeL 20 ?_ | refine takeU 20 ?_
                      first | refine takeL 21 ?_ | refine takeU 21 ?_
                      first | refine takeL 22 ?_ | refine takeU 22 ?_
                      first | refine takeL 23 ?_ | refine takeU 23 ?_
                      first | refine takeL 24 ?_ | refine takeU 24 ?_
                      first | refine takeL 25 ?_ | refine takeU 25 ?_
                      first | refine takeL 26 ?_ | refine takeU 26 ?_
                      first | refine takeL 27 ?_ | refine takeU 27 ?_
                      first | refine takeL 28 ?_ | refine takeU 28 ?_
                      first | refine takeL 29 ?_ | refine takeU 29 ?_
                      first | refine takeL 30 ?_ | refine takeU 30 ?_
                      first | refine takeL 31 ?_ | refine takeU 31 ?_
                      first | refine takeL 32 ?_ | refine takeU 32 ?_
                      refine wpAnyH_done (by kernel_rfl) ?_ _
                      clear hHeld
                      obtain ⟨-, -, k13, -⟩ := HKR.out _ _ HF5.out
                      go_wp2_with fail
                      go_roundg (8 - (i + 1))
                      case measure => have := HLT.out; omega
                      case rel => exact ⟨i + 1, (rh, po), rfl, HLT.out, by first | rfl | rw [hwr1.out], by rw [HST.out, HR1.out], HF5.out⟩
                    · have hrz' : (!(decide (r1 = 0) && decide (r2 = 0))) = true := by
                        cases hd : (decide (r1 = 0) && decide (r2 = 0))
                        · rfl
                        · rw [Bool.and_eq_true, decide_eq_true_eq, decide_eq_true_eq] at hd; exact absurd hd hrz
                      have HNO := Lib.hid (HBAD.out (by rw [HRF.out, if_neg (fun h => h.2.2 ⟨rfl, fun e => hrz ⟨congrArg (·.1) e, congrArg (·.2) e⟩⟩)]))
                      rw [hrz'] at hne
                      clear hr0 hx0 hrz hrz'
                      first | refine takeL 10 ?_ | refine takeU 10 ?_
                      first | refine takeL 11 ?_ | refine takeU 11 ?_
                      first | refine takeL 12 ?_ | refine takeU 12 ?_
                      first | refine takeL 13 ?_ | refine takeU 13 ?_
                      first | refine takeL 14 ?_ | refine takeU 14 ?_
                      first | refine takeL 15 ?_ | refine takeU 15 ?_
                      first | refine takeL 16 ?_ | refine takeU 16 ?_
                      first | refine takeL 17 ?_ | refine takeU 17 ?_
                      first | refine takeL 18 ?_ | refine takeU 18 ?_
                      first | refine takeL 19 ?_ | refine takeU 19 ?_
                      first | refine takeL 20 ?_ | refine takeU 20 ?_
                      first | refine takeL 21 ?_ | refine takeU 21 ?_
                      first | refine takeL 22 ?_ | refine takeU 22 ?_
                      first | refine takeL 23 ?_ | refine takeU 23 ?_
                      first | refine takeL 24 ?_ | refine takeU 24 ?_
                      first | refine takeL 25 ?_ | refine takeU 25 ?_
                      first | refine takeL 26 ?_ | refine takeU 26 ?_
                      first | refine takeL 27 ?_ | refine takeU 27 ?_
                      first | refine takeL 28 ?_ | refine takeU 28 ?_
                      first | refine takeL 29 ?_ | refine takeU 29 ?_
                      first | refine takeL 30 ?_ | refine takeU 30 ?_
                      first | refine takeL 31 ?_ | refine takeU 31 ?_
                      first | refine takeL 32 ?_ | refine takeU 32 ?_
                      refine wpAnyH_done (by kernel_rfl) ?_ _
                      clear hHeld
                      go_wp2_with fail
                      go_ret
                      exact FlPost.no HNO.out (by rw [← HW0.out]; exact HF5.out.1.fr)
                  · have hx1' : (xs == 0) = false := by simpa using hx1
                    have hxp : decide (0 < xs) = true := decide_eq_true (by omega)
                    have HR1 : Hid (rowF v (ph, po) i = some (rh, (onote po i xs (r1, r2)).2)) := Lib.hid (by rw [HRF.out, if_pos ⟨hr0, by omega, fun h => hx1 h.1⟩, if_pos (by omega)])
                    clear hr0 hx0 hx1 hne hgd
                    first | refine takeL 10 ?_ | refine takeU 10 ?_
                    first | refine takeL 11 ?_ | refine takeU 11 ?_
                    first | refine takeL 12 ?_ | refine takeU 12 ?_
                    first | refine takeL 13 ?_ | refine takeU 13 ?_
                    first | refine takeL 14 ?_ | refine takeU 14 ?_
                    first | refine takeL 15 ?_ | refine takeU 15 ?_
                    first | refine takeL 16 ?_ | refine takeU 16 ?_
                    first | refine takeL 17 ?_ | refine takeU 17 ?_
                    first | refine takeL 18 ?_ | refine takeU 18 ?_
                    first | refine takeL 19 ?_ | refine takeU 19 ?_
                    first | refine takeL 20 ?_ | refine takeU 20 ?_
                    first | refine takeL 21 ?_ | refine takeU 21 ?_
                    first | refine takeL 22 ?_ | refine takeU 22 ?_
                    first | refine takeL 23 ?_ | refine takeU 23 ?_
                    first | refine takeL 24 ?_ | refine takeU 24 ?_
                    first | refine takeL 25 ?_ | refine takeU 25 ?_
                    first | refine takeL 26 ?_ | refine takeU 26 ?_
                    first | refine takeL 27 ?_ | refine takeU 27 ?_
                    first | refine takeL 28 ?_ | refine takeU 28 ?_
                    first | refine takeL 29 ?_ | refine takeU 29 ?_
                    first | refine takeL 30 ?_ | refine takeU 30 ?_
                    first | refine takeL 31 ?_ | refine takeU 31 ?_
                    first | refine takeL 32 ?_ | refine takeU 32 ?_
                    refine wpAnyH_done (by kernel_rfl) ?_ _
                    clear hHeld
                    obtain ⟨-, -, k13, -⟩ := HKR.out _ _ HF5.out
                    go_wp2_with fail
                    have hBd : Below w5.heap.size w5 w5.drew := by exact belC (Below.refl _ _)
                    have HFd : Hid (FlA lo (· = xb) w0 b tb hb ob mb ib nb xb x ⟨⟨tabOf v.ik v.m, n⟩, rh, po, 0⟩ w5.drew) := Lib.hid ⟨HF5.out.1.below hBd, HF5.out.2.below hBd⟩
                    have hnt := HFd.out.1.note i xs r1 r2
                    simp only at hnt
                    have HKN : Hid (∀ W s, FlA lo (· = xb) w0 b tb hb ob mb ib nb xb x s W → (W.cell? ⟨b, 2, none⟩ = some (.pointer (some ⟨ob, 0, none⟩)) ∧ W.cell? ⟨xb, 13 + i, none⟩ = some (.int .i64 xs) ∧ W.cell? ⟨xb, 21 + i * 2, none⟩ = some (.int .i64 r1) ∧ W.cell? ⟨xb, 21 + i * 2 + 1, none⟩ = some (.int .i64 r2))) := Lib.hid (fun W s h => ⟨h.1.keys.2.2, (HKR.out W s h).2.2⟩)
                    clear hBd k13
                    refine wp_region_held_drew (S := fun W' => W'.cell? ⟨b, 2, none⟩ = some (.pointer (some ⟨ob, 0, none⟩)) ∧ W'.cell? ⟨xb, 13 + i, none⟩ = some (.int .i64 xs) ∧ W'.cell? ⟨xb, 21 + i * 2, none⟩ = some (.int .i64 r1) ∧ W'.cell? ⟨xb, 21 + i * 2 + 1, none⟩ = some (.int .i64 r2)) (by kernel_rfl) (HKN.out _ _ HFd.out) (fun hHeld => ?_)
                    first | refine takeL 0 ?_ | refine takeU 0 ?_
                    first | refine takeL 1 ?_ | refine takeU 1 ?_
                    first | refine takeL 2 ?_ | refine takeU 2 ?_
                    first | refine takeL 3 ?_ | refine takeU 3 ?_
                    first | refine takeL 4 ?_ | refine takeU 4 ?_
                    first | refine takeL 5 ?_ | refine takeU 5 ?_
                    first | refine takeL 6 ?_ | refine takeU 6 ?_
                    first | refine takeL 7 ?_ | refine takeU 7 ?_
                    first | refine takeL 8 ?_ | refine takeU 8 ?_
                    first | refine takeL 9 ?_ | refine takeU 9 ?_
                    first | refine takeL 10 ?_ | refine takeU 10 ?_
                    first | refine takeL 11 ?_ | refine takeU 11 ?_
                    first | refine takeL 12 ?_ | refine takeU 12 ?_
                    refine wpAnyH_ready (rs := [13]) (by kernel_rfl) (by simp) ?_
                    refine AllReadyH.cons (o := _) rfl (fun K hK => ?_) AllReadyH.nil
                    go_simp
                    refine hnt.mono ?_
                    clear hnt
                    rintro e w6 ⟨rfl, hM6, hF6⟩
                    have HF6 : Hid (FlA lo (· = xb) w0 b tb hb ob mb ib nb xb x ⟨⟨tabOf v.ik v.m, n⟩, rh, (onote po i xs (r1, r2)).2, 0⟩ w6) := Lib.hid ⟨hF6, HFd.out.2.mod hM6 (fun k e => e)⟩
                    clear hM6 hF6
                    try go_wp2_with fail
                    refine hK.out _ _ (HKN.out _ _ HF6.out) (fun hHeld => ?_)
                    clear hK K
                    try simp only [Act.put, List.setIfInBounds_toArray, List.set_cons_zero, List.set_cons_succ]
                    refine wpAnyH_done (by kernel_rfl) ?_ _
                    clear hHeld
                    go_wp2_with fail
                    go_roundg (8 - (i + 1))
                    case measure => have := HLT.out; omega
                    case rel => exact ⟨i + 1, (rh, (onote po i xs (r1, r2)).2), rfl, HLT.out, by first | rfl | rw [hwr1.out], by rw [HST.out, HR1.out], HF6.out⟩
                · obtain rfl : i = 8 := by omega
                  obtain ⟨ph, po⟩ := p
                  have HFS : Hid (fillS v = some ⟨⟨tabOf v.ik v.m, n⟩, ph, po, v.n⟩) := Lib.hid (by rw [HB.out.rows HCM.out HFO.out]; rfl)
                  have HPM : Hid (ph.m.length ≤ 100000) := Lib.hid (by rw [rows_m HFO.out]; exact HHL.out)
                  obtain ⟨b0, k0, -, -, -, -⟩ := HK.out _ _ _ HFr.out
                  obtain ⟨c3, f3⟩ : wr.cell? ⟨b, 3, none⟩ = some (.int .i64 0) ∧ wr.frozen? ⟨b, 3, none⟩ = false := by obtain ⟨S1, S2, hi, -, -⟩ := HFr.out.1.st; exact ⟨hi.c3, hi.fz 3⟩
                  obtain ⟨W5, hW5⟩ : ∃ W5, W5 = wr.setCell ⟨b, 3, none⟩ (.int .i64 x.n) := ⟨_, rfl⟩
                  have HF5 : Hid (FlA lo (· = xb) w0 b tb hb ob mb ib nb xb x ⟨⟨tabOf v.ik v.m, n⟩, ph, po, v.n⟩ W5.drew) := Lib.hid (by
                    have h := HFr.out.1.nxt x.n
                    rw [← hW5] at h
                    have hBd : Below W5.heap.size W5 W5.drew := by exact belC (Below.refl _ _)
                    have h1 := h.1.below hBd
                    simp only at h1
                    rw [HX0.out] at h1
                    exact ⟨h1, (HFr.out.2.mod h.2 (fun k e => e)).below hBd⟩)
                  have HW5 := Lib.hid hW5
                  clear hi hlt HFO HFr hW5
                  go_wp2_with fail
                  rw [← HW5.out]
                  clear b0 k0 c3 f3
                  refine wp_region_held_drew (S := fun W' => W'.cell? ⟨b, 0, none⟩ = some (.pointer (some ⟨tb, 0, none⟩)) ∧ W'.rangeAt xb 0 x.cells) (by kernel_rfl) ⟨HF5.out.1.keys.1, HF5.out.2.range⟩ (fun hHeld => ?_)
                  first | refine takeL 0 ?_ | refine takeU 0 ?_
                  first | refine takeL 1 ?_ | refine takeU 1 ?_
                  first | refine takeL 2 ?_ | refine takeU 2 ?_
                  first | refine takeL 3 ?_ | refine takeU 3 ?_
                  refine wpAnyH_ready (rs := [4]) (by kernel_rfl) (by simp) ?_
                  refine AllReadyH.cons (o := _) rfl (fun K hK => ?_) AllReadyH.nil
                  go_simp
                  refine (HF5.out.1.check HNL.out HIK.out).mono ?_
                  rintro e w6 ⟨r, rfl, hck, hB6⟩
                  have HCK := Lib.hid hck
                  have HF6 : Hid (FlA lo (· = xb) w0 b tb hb ob mb ib nb xb x ⟨⟨tabOf v.ik v.m, n⟩, ph, po, v.n⟩ w6) := Lib.hid ⟨HF5.out.1.below hB6, HF5.out.2.below hB6⟩
                  clear hck hB6
                  try go_wp2_with fail
                  refine hK.out _ _ ⟨HF6.out.1.keys.1, HF6.out.2.range⟩ (fun hHeld => ?_)
                  clear hK K
                  try simp only [Act.put, List.setIfInBounds_toArray, List.set_cons_zero, List.set_cons_succ]
                  cases r
                  · have HNO : Hid (¬ ∃ s, LoadOk v s) := Lib.hid (fun ⟨s, hs⟩ => by
                      have h1 := hs.f
                      rw [HFS.out] at h1
                      cases h1
                      exact absurd (HCK.out.2 hs.ck) (by decide))
                    first | refine takeL 5 ?_ | refine takeU 5 ?_
                    first | refine takeL 6 ?_ | refine takeU 6 ?_
                    first | refine takeL 7 ?_ | refine takeU 7 ?_
                    first | refine takeL 8 ?_ | refine takeU 8 ?_
                    first | refine takeL 9 ?_ | refine takeU 9 ?_
                    first | refine takeL 10 ?_ | refine takeU 10 ?_
                    first | refine takeL 11 ?_ | refine takeU 11 ?_
                    refine wpAnyH_done (by kernel_rfl) ?_ _
                    clear hHeld
                    go_wp2_with fail
                    go_ret
                    exact FlPost.no HNO.out (by rw [← HW0.out]; exact HF6.out.1.fr)
                  · skip
                    first | refine takeL 5 ?_ | refine takeU 5 ?_
                    refine takeL 6 ?_ (by (simp only [opL, List.getElem?_toArray, List.getElem?_cons_succ, List.getElem?_cons_zero, Option.getD_some]; exact ⟨_, yieldsIf_load_mid (by rfl) 32 _ (by rfl) xb 0 (by rfl) x.cells _ (fun W h => h.2) Tryz.underlying32 rfl (by kernel_rfl), fun _ _ _ h => h, (by simp only [Act.put, List.setIfInBounds_toArray, List.set_cons_zero, List.set_cons_succ]; rfl), rfl⟩))
                    first | refine takeL 7 ?_ | refine takeU 7 ?_
                    refine wpAnyH_ready (rs := [8]) (by kernel_rfl) (by simp) ?_
                    refine AllReadyH.cons (o := _) rfl (fun K hK => ?_) AllReadyH.nil
                    go_simp
                    refine (HF6.out.1.dump HIK.out HNL.out HPM.out).mono ?_
                    rintro e w7 ⟨y, hD⟩
                    have he := hD.e
                    subst he
                    have HD := Lib.hid hD
                    have HF7 : Hid (FlA lo (· = xb) w0 b tb hb ob mb ib nb xb x ⟨⟨tabOf v.ik v.m, n⟩, ph, po, v.n⟩ w7) := Lib.hid ⟨HF6.out.1.below hD.bl, HF6.out.2.below hD.bl⟩
                    clear hD
                    try go_wp2_with fail
                    refine hK.out _ _ ⟨HF7.out.1.keys.1, HF7.out.2.range⟩ (fun hHeld => ?_)
                    clear hK K
                    try simp only [Act.put, List.setIfInBounds_toArray, List.set_cons_zero, List.set_cons_succ]
                    refine wpAnyH_ready (rs := [9]) (by kernel_rfl) (by simp) ?_
                    refine AllReadyH.cons (o := _) rfl (fun K hK => ?_) AllReadyH.nil
                    go_simp
                    refine (stSame_any w7 _ _ x y HF7.out.2.ok HD.out.ok).mono ?_
                    rintro e w8 ⟨rfl, hB8⟩
                    have HSM := Lib.hid (same_iff HD.out HDI.out)
                    have HF8 : Hid (FlA lo (· = xb) w0 b tb hb ob mb ib nb xb x ⟨⟨tabOf v.ik v.m, n⟩, ph, po, v.n⟩ w8) := Lib.hid ⟨HF7.out.1.below hB8, HF7.out.2.below hB8⟩
                    clear hB8
                    generalize x.same y = sm at *
                    try go_wp2_with fail
                    refine hK.out _ _ ⟨HF8.out.1.keys.1, HF8.out.2.range⟩ (fun hHeld => ?_)
                    clear hK K
                    try simp only [Act.put, List.setIfInBounds_toArray, List.set_cons_zero, List.set_cons_succ]
                    first | refine takeL 10 ?_ | refine takeU 10 ?_
                    first | refine takeL 11 ?_ | refine takeU 11 ?_
                    refine wpAnyH_done (by kernel_rfl) ?_ _
                    clear hHeld
                    go_wp2_with fail
                    go_ret
                    refine ⟨sm, rfl, by rw [← HW0.out]; exact HF8.out.1.fr, ⟨fun h => ⟨_, HFS.out, HCK.out.1 (by trivial), HSM.out.1 h⟩, fun ⟨s, hs⟩ => HSM.out.2 ?_⟩, fun s hs => ?_⟩
                    · have h1 := hs.f
                      rw [HFS.out] at h1
                      cases h1
                      exact hs.sm
                    · have h1 := hs.f
                      rw [HFS.out] at h1
                      cases h1
                      obtain ⟨S1, S2, hi, h1, h2⟩ := HF8.out.1.st
                      exact ⟨S1, S2, hi, fun k hk => (h1 k hk).1, fun k hk => (h2 k hk).1⟩
end Go.Proofs.YtmnkackkeppheaaGreat
