/- package state: Load of any dump -/
import Derived.Test.YtmnkackkeppheaaGreatFill2
import Derived.Test.YtmnkackkeppheaaGreatImDec
namespace Go.Proofs.YtmnkackkeppheaaGreat
open Go.RowKit Esch Go.Shelf

set_option linter.unusedSimpArgs false
set_option linter.unusedVariables false
def LdAns (v : DVal) (ld : Int) : Prop := (ld = 0 ∧ ∃ s, LoadOk v s) ∨ (ld = 11 ∧ ¬ ∃ s, LoadOk v s)
def LoadPost (w : World) (b : Nat) (S : Nat → Prop) (v : DVal) (e : Ending) (w' : World) : Prop := ∃ ld : Int, e = .returned (.int .i64 ld) ∧ LdAns v ld ∧ Mod (· = b) w w' ∧ ∀ s, LoadOk v s → SttAt w' b (growI S w w') s
set_option maxRecDepth 100000 in
set_option maxHeartbeats 4000000 in
theorem load_any (w : World) (b : Nat) (S T : Nat → Prop) (s : StS) (h : SttAt w b S s) (x : DmC) (v : DVal) (hx : DmIs x v) (hr : DmOk w T x) :
    Calls Tryz.prog 22 #[.pointer (some ⟨b, 0, none⟩), .agg x.cells.toArray] w (LoadPost w b S v) := by
  obtain ⟨sb, lt, tb, hb, ob, mb, S1, S2, hi, -, -, -, -⟩ := h
  have c0 := hi.c0
  have c1 := hi.c1
  have c2 := hi.c2
  have c3 := hi.c3
  have HFZ := Lib.hid hi.fz
  have f0 := hi.fz 0
  have f1 := hi.fz 1
  have f2 := hi.fz 2
  have f3 := hi.fz 3
  have hbl := cell_lt c0
  have HLT := Lib.hid lt
  have HSB := Lib.hid sb
  obtain ⟨W1, hW1⟩ : ∃ W1, W1 = w.alloc (.cells x.cells.toArray 32) := ⟨_, rfl⟩
  have hB1 : Below w.heap.size w W1 := by rw [hW1]; exact belC (Below.refl _ _)
  have hz1 : W1.heap.size = w.heap.size + 1 := by rw [hW1]; simp
  have hbx : DmBox W1 w.heap.size (fun j => (x.cells[j]?).getD undef) := by rw [hW1]; exact DmBox.new _ _ _ rfl
  have hr1 : DmOk W1 (fun k => k < W1.heap.size) x := dmOk_md (dmOk_sub (T := fun k => k < W1.heap.size) hr (fun k hk _ => by omega)) (F := none') (Mod.of_below hB1) (fun _ _ _ => id)
  have hnew := stNew_any W1
  have HR1 := Lib.hid hr1
  have HBX := Lib.hid hbx
  have HW1 := Lib.hid hW1
  have HB1 := Lib.hid hB1
  clear hi lt sb hr hr1 hbx hW1 hB1
  go_enter Tryz.func22, Tryz.ntmps22
  go_wp2_with fail
  rw [← HW1.out]
  refine hnew.mono ?_
  clear hnew
  rintro e w2 ⟨xb, rfl, hS2, hB2⟩
  obtain ⟨sb2, lt2, tb2, hb2, ob2, mb2, T1, T2, hi2, t1, t2, t3, t4⟩ := hS2
  have hfl := fill_any w2 W1.heap.size xb tb2 hb2 ob2 mb2 T1 T2 hi2 (fun k hk => (t1 k hk).1) (fun k hk => (t2 k hk).1) sb2.1 t4.1 t3.1 x v hx (dmOk_md HR1.out (F := none') (Mod.of_below hB2) (fun _ _ _ => id))
  have HRG := Lib.hid ((HBX.out.below hB2).rangeL rfl)
  have HB2 := Lib.hid (HB1.out.trans (hB2.mono HB1.out.size))
  have HXL := Lib.hid sb2.1
  have HT := Lib.hid (And.intro t3.1 t4.1)
  clear hi2 t1 t2 t3 t4 sb2 lt2 hB2 HR1 HBX HW1 HB1
  go_wp2_with (refine wpList_load_mid (by rfl) 32 _ (by rfl) w.heap.size 0 (by rfl) x.cells _ HRG.out Tryz.underlying32 rfl (by kernel_rfl) ?_)
  refine hfl.mono ?_
  clear hfl
  rintro e w3 ⟨r, rfl, hB3, hff, hst⟩
  have hB := HB2.out.trans (hB3.mono (by omega))
  have HB := Lib.hid hB
  have HST := Lib.hid hst
  have HFF := Lib.hid hff
  cases r
  · clear hst hff hB3 hB HB2 HRG
    go_wp2_with fail
    go_ret
    have hno : ¬ ∃ s, LoadOk v s := fun h => by have := HFF.out.2 h; cases this
    exact ⟨11, rfl, Or.inr ⟨rfl, hno⟩, Mod.of_below HB.out, fun s hs => absurd ⟨s, hs⟩ hno⟩
  · obtain ⟨s', hs'⟩ := HFF.out.1 rfl
    obtain ⟨U1, U2, hi3, u1, u2⟩ := hst s' hs'
    have x0 := hi3.c0
    have x1 := hi3.c1
    have x2 := hi3.c2
    have x3 := hi3.c3
    have c0 := below_at hB c0 hbl
    have c1 := below_at hB c1 hbl
    have c2 := below_at hB c2 hbl
    have c3 := below_at hB c3 hbl
    have HFB : Hid (∀ j, w3.frozen? ⟨b, j, none⟩ = false) := Lib.hid (fun j => ((Mod.of_below (F := none') hB).frozen (p := ⟨b, j, none⟩) hbl id).trans (HFZ.out j))
    have f0 := HFB.out 0
    have f1 := HFB.out 1
    have f2 := HFB.out 2
    have f3 := HFB.out 3
    have HI3 := Lib.hid hi3
    have HU := Lib.hid (And.intro u1 u2)
    have HS' := Lib.hid hs'
    have hbl3 := cell_lt c0
    obtain ⟨W4, hW4⟩ : ∃ W4, W4 = (((w3.setCell ⟨b, 0, none⟩ (.pointer (some ⟨tb2, 0, none⟩))).setCell ⟨b, 1, none⟩ (.pointer (some ⟨hb2, 0, none⟩))).setCell ⟨b, 2, none⟩ (.pointer (some ⟨ob2, 0, none⟩))).setCell ⟨b, 3, none⟩ (.int .i64 s'.next) := ⟨_, rfl⟩
    have hM4 : Mod (· = b) w3 W4 := by rw [hW4]; exact Mod.setCellAt (F := (· = b)) (Mod.setCellAt (F := (· = b)) (Mod.setCellAt (F := (· = b)) (Mod.setCellAt (F := (· = b)) (Mod.refl _ _) (fun _ => rfl) _) (fun _ => rfl) _) (fun _ => rfl) _) (fun _ => rfl) _
    have d0 : W4.cell? ⟨b, 0, none⟩ = some (.pointer (some ⟨tb2, 0, none⟩)) := by rw [hW4]; go_simp
    have d1 : W4.cell? ⟨b, 1, none⟩ = some (.pointer (some ⟨hb2, 0, none⟩)) := by rw [hW4]; go_simp
    have d2 : W4.cell? ⟨b, 2, none⟩ = some (.pointer (some ⟨ob2, 0, none⟩)) := by rw [hW4]; go_simp
    have d3 : W4.cell? ⟨b, 3, none⟩ = some (.int .i64 s'.next) := by rw [hW4]; go_simp
    have D := Lib.hid (show _ ∧ _ ∧ _ ∧ _ from ⟨d0, d1, d2, d3⟩)
    have HFW : Hid (∀ j, W4.frozen? ⟨b, j, none⟩ = false) := Lib.hid (fun j => by rw [hW4]; exact (World.frozen?_setCell _ _ _ _).trans ((World.frozen?_setCell _ _ _ _).trans ((World.frozen?_setCell _ _ _ _).trans ((World.frozen?_setCell _ _ _ _).trans (HFB.out j)))))
    have HM4 := Lib.hid hM4
    have HW4 := Lib.hid hW4
    have HZ := Lib.hid hz1
    have HBL := Lib.hid hbl
    clear hst hff hB3 hB HB2 HRG hi3 u1 u2 hs' hM4 hW4 d0 d1 d2 d3 hz1
    go_wp2_with fail
    go_ret
    rw [← HW4.out]
    have hz := HB.out.size
    have hbl := HBL.out
    have hlo : ∀ k, W1.heap.size ≤ k → k ≠ b := fun k hk e => by have := HZ.out; omega
    have hol := cell_lt HI3.out.on.1
    refine ⟨0, rfl, Or.inl ⟨rfl, s', HS'.out⟩, (Mod.of_below HB.out).trans HM4.out, fun s2 hs2 => ?_⟩
    obtain rfl : s2 = s' := by have h1 := hs2.f; rw [HS'.out.f] at h1; cases h1; rfl
    have hi3 := HI3.out
    obtain ⟨u1, u2⟩ := HU.out
    obtain ⟨t3, t4⟩ := HT.out
    have hz4 := HM4.out.size
    have hin : StIn W4 b tb2 hb2 ob2 mb2 U1 U2 s2 := ⟨D.out.1, D.out.2.1, D.out.2.2.1, D.out.2.2.2, HFW.out, hi3.tr.mod HM4.out (fun k hk e => hlo k (u1 k hk) e), hi3.hd.mod HM4.out (fun k hk e => hlo k (u2 k hk) e), hi3.on.mod HM4.out (fun e => hlo _ t3 e) (fun e => hlo _ t4 e), hi3.ap, fun e => hlo _ (u1 b e) rfl, fun e => hlo _ (u2 b e) rfl, hi3.o1, hi3.o2, hi3.m1, hi3.m2, hi3.om, fun e => hlo _ t3 e.symm, fun e => hlo _ t4 e.symm⟩
    have hg : ∀ k, W1.heap.size ≤ k → k < W4.heap.size → growI S w W4 k := fun k h1 h2 => Or.inr ⟨by have := HZ.out; omega, h2⟩
    exact ⟨Or.inl HSB.out, fun k hk => hk.elim (fun h => Nat.lt_of_lt_of_le (HLT.out k h) (Nat.le_trans hz hz4)) (fun h => h.2), tb2, hb2, ob2, mb2, U1, U2, hin, fun k hk => hg k (u1 k hk) (hin.tr.lt k hk), fun k hk => hg k (u2 k hk) (hin.hd.lt k hk), hg _ t3 (cell_lt hin.on.1), hg _ t4 hin.on.lt⟩
/-- Load's answer is known -/
theorem load_is (v : DVal) : ∃ ld, LoadIs v ld ∧ LdAns v ld := by
  by_cases h : ∃ s, LoadOk v s
  · refine ⟨0, fun W sb S T x hS hr hx => (load_any W sb S T st0 hS x v hx hr).mono fun e w' ⟨ld, he, ha, hM, _⟩ => ?_, Or.inl ⟨rfl, h⟩⟩
    rcases ha with ⟨rfl, -⟩ | ⟨-, hn⟩
    · exact ⟨he, hM⟩
    · exact absurd h hn
  · refine ⟨11, fun W sb S T x hS hr hx => (load_any W sb S T st0 hS x v hx hr).mono fun e w' ⟨ld, he, ha, hM, _⟩ => ?_, Or.inr ⟨rfl, h⟩⟩
    rcases ha with ⟨-, hy⟩ | ⟨rfl, -⟩
    · exact absurd hy h
    · exact ⟨he, hM⟩
end Go.Proofs.YtmnkackkeppheaaGreat
