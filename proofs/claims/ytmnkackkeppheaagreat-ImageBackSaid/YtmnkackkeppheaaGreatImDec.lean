/- package image: Decode of any text -/
import Derived.Test.YtmnkackkeppheaaGreatImDmp
import Derived.Test.YtmnkackkeppheaaGreatStFill
import Derived.Defers
import Derived.Recover
namespace Go.Proofs.YtmnkackkeppheaaGreat
open Go.RowKit Esch Go.Shelf

set_option linter.unusedSimpArgs false
set_option linter.unusedVariables false
def peBR : List PanicEntry := [{ v := .iface 60 (.agg #[]), recovered := true }]
set_option maxRecDepth 100000 in
theorem dec1_idle (p q : Addr) (w : World) : CallsD Tryz.prog 18 #[.pointer (some p), .pointer (some q)] .returning w fun e u' w' => e = .returned (.tuple #[]) ∧ u' = .returning ∧ w' = w := by
  refine callsD_of_wpS Tryz.func18 rfl fun c₀ cs hu => ?_
  apply wpS_seq
  apply wpS_region
  simp [wpOpsS, go_sem, recoverD, hu, Tryz.ntmps18, Exit.thenS, Array.replicate_succ, Array.replicate_zero, List.push_toArray, List.append_toArray]
  refine wpS_of_wp ?_
  have hnil : ∀ w : World, (binOp BinOp.eql 20 .nilIface .nilIface).run Tryz.prog w = .ok (.bool true) w := fun _ => by kernel_rfl
  go_wp2
  cases c₀
  simp_all [bodyPostS, results, Tryz.results18]
def Dec1Post (w : World) (db eb : Nat) (r : Ending) (u' : FrameMode) (w' : World) : Prop := r = .returned (.tuple #[]) ∧ u' = .panicking peBR ∧ DmBox w' db (fun j => (dumpZ[j]?).getD undef) ∧ w'.cell? ⟨eb, 0, none⟩ = some (.int .i64 11) ∧ Mod (fun k => k = db ∨ k = eb) w w'
set_option maxRecDepth 100000 in
set_option maxHeartbeats 2000000 in
theorem dec1_panic (db eb : Nat) (f : Nat → Value) (v0 : Value) (w : World) (hd : DmBox w db f) (hc : w.cell? ⟨eb, 0, none⟩ = some v0) (hz : w.frozen? ⟨eb, 0, none⟩ = false) (hne : db ≠ eb) :
    CallsD Tryz.prog 18 #[.pointer (some ⟨db, 0, none⟩), .pointer (some ⟨eb, 0, none⟩)] (.panicking peB) w (Dec1Post w db eb) := by
  have hl := cell_lt hc
  have hdl := cell_lt (hd.at' 0 (by decide))
  obtain ⟨W1, hW1⟩ : ∃ W1, W1 = w.alloc (.cells #[] 60) := ⟨_, rfl⟩
  have hM1 : Mod none' w W1 := by rw [hW1]; exact (Mod.refl _ _).alloc _
  have hd1 := hd.mods hM1 id
  have hth := hd1.there
  have hst := hd1.store dumpZ rfl
  obtain ⟨W2, hW2⟩ : ∃ W2, W2 = W1.setCells db 0 dumpZ := ⟨_, rfl⟩
  have hM2 : Mod (· = db) W1 W2 := by rw [hW2]; exact Mod.setCellsAt (F := (· = db)) (show (· = db) db from rfl) _ _ _ (Mod.refl _ _)
  have c1 := hM2.at (hM1.at hc id) (fun e => hne e.symm)
  have z1 := (hM2.frozen (p := ⟨eb, 0, none⟩) (Nat.lt_of_lt_of_le hl hM1.size) (fun e => hne e.symm)).trans ((hM1.frozen (p := ⟨eb, 0, none⟩) hl id).trans hz)
  have l1 := cell_lt c1
  rw [← hW2] at hst
  have HST := Lib.hid hst
  have HM : Hid (Mod (fun k => k = db ∨ k = eb) w W2) := Lib.hid ((hM1.mono fun k _ h => h.elim).trans' hM2 (fun k _ e => Or.inl e))
  have HW2 := Lib.hid hW2
  have HW1 := Lib.hid hW1
  rw [hW1] at hth
  clear hd hd1 hM1 hM2 hst hW2 hW1
  refine callsD_of_wpS Tryz.func18 rfl fun c₀ cs hu => ?_
  unfold peB at hu
  apply wpS_seq
  apply wpS_region
  simp [wpOpsS, go_sem, recoverD, hu, Tryz.ntmps18, Exit.thenS, Array.replicate_succ, Array.replicate_zero, List.push_toArray, List.append_toArray]
  refine wpS_of_wp ?_
  have hta : ∀ w : World, (Instr.typeAssert (.iface 60 (.agg #[])) 20 60 true).run Tryz.prog w = .ok (.tuple #[.agg #[], .bool true]) w := fun _ => by kernel_rfl
  have hnn : ∀ w : World, (binOp BinOp.eql 20 (.iface 60 (.agg #[])) .nilIface).run Tryz.prog w = .ok (.bool false) w := fun _ => by kernel_rfl
  go_wp2_with (refine wpList_store_mid (by rfl) 32 _ _ (by rfl) db 0 dumpZ.toArray (by rfl) (by rfl) hth (by kernel_rfl) (dmZ_one _ _ _ _ _ _ _ _ _ _ _) ?_; rw [← HW1.out, ← HW2.out])
  cases c₀
  have hMs : Mod (· = eb) W2 (W2.setCell ⟨eb, 0, none⟩ (.int .i64 11)) := (Mod.refl (· = eb) W2).setCellAt (fun _ => rfl) _
  exact ⟨rfl, .panicking peBR, rfl, .tuple #[], by simp [results, Tryz.results18, go_sem], rfl, rfl, HST.out.mods hMs (fun e => hne e), by go_simp, HM.out.trans (hMs.mono fun k _ e => Or.inr e)⟩
theorem dmOk_mod {w w' : World} {S F : Nat → Prop} {x : DmC} (h : DmOk w S x) (hM : Mod F w w') (hS : ∀ k, S k → k < w.heap.size → ¬ F k) : DmOk w' S x := ⟨h.ino.mod hM hS, h.nam.mod hM hS, h.hdl.mod hM hS, h.i1, h.n1, h.h1⟩
theorem dmOk_sub {w : World} {S T : Nat → Prop} {x : DmC} (h : DmOk w S x) (hS : ∀ k, k < w.heap.size → S k → T k) : DmOk w T x := ⟨h.ino.sub hS, h.nam.sub hS, h.hdl.sub hS, h.i1, h.n1, h.h1⟩
/-- Load's answer to a dump of these values -/
def LoadIs (v : DVal) (ld : Int) : Prop := ∀ (W : World) (sb : Nat) (S T : Nat → Prop) (x : DmC), SttAt W sb S st0 → DmOk W T x → DmIs x v → Calls Tryz.prog 22 #[.pointer (some ⟨sb, 0, none⟩), .agg x.cells.toArray] W fun e w' => e = .returned (.int .i64 ld) ∧ Mod (· = sb) W w'
/-- the dump of a text -/
def decP (ldf : DVal → Int) (t : ByteArray) : Option DVal := match rDump (t, false) with
  | none => none
  | some (v, st) => if st.2 = true ∨ 0 < st.1.size then none else if ldf v = 0 then some v else none
def IDecPost (r : Option DVal) (w : World) (e : Ending) (w' : World) : Prop := Below w.heap.size w w' ∧ match r with
  | none => e = .returned (.tuple #[.agg dumpZ.toArray, .int .i64 11])
  | some v => ∃ x : DmC, e = .returned (.tuple #[.agg x.cells.toArray, .int .i64 0]) ∧ DmOk w' (From w.heap.size) x ∧ DmIs x v
theorem dec_results (w : World) (rb eb : Nat) (cs : List Value) (v : Value) (tmps : Array Value) (h : tmps.getD 2 undef = .pointer (some ⟨rb, 0, none⟩)) (h' : tmps.getD 3 undef = .pointer (some ⟨eb, 0, none⟩)) (hc : w.rangeAt rb 0 cs) (hl : cs.length = 37) (he : w.cell? ⟨eb, 0, none⟩ = some v) : (results Tryz.f6 tmps).run Tryz.prog w = .ok (.tuple #[.agg cs.toArray, v]) w := by
  have h2 := run_loadVar_mid (P := Tryz.prog) w rb 0 32 cs _ hc Tryz.underlying32 rfl (by rw [hl]; kernel_rfl)
  have h3 : tmps[2]?.getD undef = .pointer (some ⟨rb, 0, none⟩) := by simpa using h
  have h4 : tmps[3]?.getD undef = .pointer (some ⟨eb, 0, none⟩) := by simpa using h'
  have h5 : (loadVar 33 ⟨eb, 0, none⟩).run Tryz.prog w = .ok v w := by simp [go_sem, he, Tryz.underlying33]
  unfold results
  rw [Tryz.results6]
  simp [h3, h4, asAddr, h2, h5]
theorem leaves_tmps {P : Program} {fn : Func} {R : Ending → World → Prop} {t1 t2 : Array Value} (h : results fn t1 = results fn t2) : ∀ (ds : List Deferred) (u : FrameMode) (w : World), Leaves P fn t1 R ds u w → Leaves P fn t2 R ds u w
  | [], .returning, w, ⟨v, h1, h2⟩ => ⟨v, h ▸ h1, h2⟩
  | [], .panicking c, w, h1 => h1
  | [], .run, w, h1 => h1
  | d :: ds, u, w, ⟨h1, fv, cap, f, args, h2, h3, h4⟩ => by
    refine ⟨h1, fv, cap, f, args, h2, h3, fun c cs hc => ?_⟩
    obtain ⟨e, u', w', fr, hR, r⟩ := h4 c cs hc
    refine ⟨e, u', w', fr, ?_, r⟩
    cases e with
    | returned v => exact leaves_tmps h ds _ _ hR
    | panicked c => exact leaves_tmps h ds _ _ hR
    | outgrown => exact hR
theorem dec_put {R : Ending → World → Prop} {c : List PanicEntry} {b : Act} {d : Nat} {v : Value} {u : World} (h2 : d ≠ 2) (h3 : d ≠ 3) (h : bodyPostD Tryz.prog Tryz.f6 R (.panic c) (b.put (some d) v) u) : bodyPostD Tryz.prog Tryz.f6 R (.panic c) b u := by
  refine leaves_tmps ?_ _ _ _ h
  have e2 : (b.put (some d) v).tmps[2]?.getD undef = b.tmps[2]?.getD undef := by
    show (b.tmps.setIfInBounds d v)[2]?.getD undef = _
    rw [Array.getElem?_setIfInBounds_ne h2]
  have e3 : (b.put (some d) v).tmps[3]?.getD undef = b.tmps[3]?.getD undef := by
    show (b.tmps.setIfInBounds d v)[3]?.getD undef = _
    rw [Array.getElem?_setIfInBounds_ne h3]
  unfold results
  rw [Tryz.results6]
  simp [e2, e3]
set_option maxRecDepth 100000 in
set_option maxHeartbeats 8000000 in
theorem imgDecode_any (w : World) (t : ByteArray) (ht : t.size ≤ 9223372036854775807) (ldf : DVal → Int) (hld : ∀ v st, rDump (t, false) = some (v, st) → LoadIs v (ldf v)) : Calls Tryz.prog 6 #[.string t] w (IDecPost (decP ldf t) w) := by
  have hmf : ∀ (fn : Fn) (first cap : Array Value) (w : World), (Instr.makeFunc fn first cap).run Tryz.prog w = .ok (.func fn first cap) w := fun _ _ _ _ => rfl
  obtain ⟨r, hr⟩ : ∃ r, r = decP ldf t := ⟨_, rfl⟩
  rw [← hr]
  have HR := Lib.hid hr
  have HLD := Lib.hid hld
  obtain ⟨W1, hW1⟩ : ∃ W1, W1 = (w.alloc (.cells #[.int .i64 0, .slice none 0 0, .int .i64 0, .slice none 0 0, .slice none 0 0, .int .i64 0, .int .i64 0, .int .i64 0, .int .i64 0, .int .i64 0, .int .i64 0, .int .i64 0, .int .i64 0, .int .i64 0, .int .i64 0, .int .i64 0, .int .i64 0, .int .i64 0, .int .i64 0, .int .i64 0, .int .i64 0, .int .i64 0, .int .i64 0, .int .i64 0, .int .i64 0, .int .i64 0, .int .i64 0, .int .i64 0, .int .i64 0, .int .i64 0, .int .i64 0, .int .i64 0, .int .i64 0, .int .i64 0, .int .i64 0, .int .i64 0, .int .i64 0] 32)).alloc (.cells #[.int .i64 0] 33) := ⟨_, rfl⟩
  have hB1 : Below w.heap.size w W1 := by rw [hW1]; exact belC (Below.refl _ _)
  have hz1 : W1.heap.size = w.heap.size + 2 := by rw [hW1]; simp
  have hd1 : DmBox W1 w.heap.size (fun j => (dumpZ[j]?).getD undef) := by
    have h := DmBox.new w 32 dumpZ rfl
    have hM : Mod none' (w.alloc (.cells dumpZ.toArray 32)) W1 := by rw [hW1]; exact (Mod.refl _ _).alloc _
    exact h.mods hM id
  have he1 : W1.cell? ⟨w.heap.size + 1, 0, none⟩ = some (.int .i64 0) := by rw [hW1]; go_simp
  have hf1 : W1.frozen? ⟨w.heap.size + 1, 0, none⟩ = false := by rw [hW1]; go_simp
  have HD1 := Lib.hid hd1
  have HE1 := Lib.hid (And.intro he1 hf1)
  have HB1 := Lib.hid hB1
  have HZ1 := Lib.hid hz1
  have HW1 := Lib.hid hW1
  clear hr hld hW1 hB1 hz1 hd1 he1 hf1
  go_enter_defers Tryz.func6, Tryz.ntmps6
  go_wp2_with fail
  rw [← HW1.out]
  refine (open_any W1 t ht).mono ?_
  rintro e w2 ⟨ub, rfl, hU, hub, hB2⟩
  obtain ⟨W3, hW3⟩ : ∃ W3, W3 = w2.alloc (.cells #[.pointer (some ⟨ub, 0, none⟩)] 64) := ⟨_, rfl⟩
  have hB3 : Below W1.heap.size W1 W3 := by rw [hW3]; exact hB2.alloc (hB2.size) _
  have hM3 : Mod none' w2 W3 := by rw [hW3]; exact (Mod.refl _ _).alloc _
  have hz3 : W3.heap.size = w2.heap.size + 1 := by rw [hW3]; simp
  have ht4 : W3.cell? ⟨w2.heap.size, 0, none⟩ = some (.pointer (some ⟨ub, 0, none⟩)) := by rw [hW3]; go_simp
  have hU3 := hU.mods hM3 id
  obtain ⟨rb, hrb⟩ : ∃ rb, rb = w2.heap.size := ⟨_, rfl⟩
  have hul := cell_lt hU.c0
  have HUB : Hid (w.heap.size + 2 ≤ ub ∧ ub < rb ∧ rb < W3.heap.size) := Lib.hid (by have := HZ1.out; omega)
  rw [← hrb] at ht4
  have HD3 := Lib.hid (HD1.out.mods (F := none') (Mod.of_below hB3) id)
  have HE3 : Hid (W3.cell? ⟨w.heap.size + 1, 0, none⟩ = some (.int .i64 0) ∧ W3.frozen? ⟨w.heap.size + 1, 0, none⟩ = false) := Lib.hid ⟨below_at hB3 HE1.out.1 (cell_lt HE1.out.1), ((Mod.of_below (F := none') hB3).frozen (p := ⟨w.heap.size + 1, 0, none⟩) (cell_lt HE1.out.1) id).trans HE1.out.2⟩
  have HB3 := Lib.hid (HB1.out.trans (hB3.mono HB1.out.size))
  have HU3 := Lib.hid hU3
  have HW3 := Lib.hid hW3
  have HRB := Lib.hid hrb
  clear hU hB2 hub hW3 hB3 hM3 hz3 hU3 hrb hul
  go_wp2_with fail
  rw [← HW3.out, ← HRB.out]
  refine (rdDump_any W3 ub (t, false) HU3.out).mono ?_
  rintro e w4 ⟨hM, ⟨hr, rfl⟩ | ⟨x, v, st, hr, rfl, hx, hv, hU⟩⟩
  · have HD4 := Lib.hid (HD3.out.mods hM (by have := HUB.out; omega))
    have HE4 : Hid (w4.cell? ⟨w.heap.size + 1, 0, none⟩ = some (.int .i64 0) ∧ w4.frozen? ⟨w.heap.size + 1, 0, none⟩ = false) := Lib.hid ⟨hM.at HE3.out.1 (by have := HUB.out; omega), (hM.frozen (p := ⟨w.heap.size + 1, 0, none⟩) (cell_lt HE3.out.1) (by show ¬ w.heap.size + 1 = ub; have := HUB.out; omega)).trans HE3.out.2⟩
    have HB4 := Lib.hid (HB3.out.trans (hM.below_at (B := w.heap.size) HB3.out.size (fun k hk e => by have := HUB.out; have e : k = ub := e; omega)))
    have HRN : Hid (r = none) := Lib.hid (by rw [HR.out]; unfold decP; rw [hr])
    clear hM hr ht4
    go_wp2_with fail
    refine leaves_cons (f := 18) (args := #[.pointer (some ⟨w.heap.size, 0, none⟩), .pointer (some ⟨w.heap.size + 1, 0, none⟩)]) (by simp) (by simp [go_sem]) ?_
    refine (dec1_panic w.heap.size (w.heap.size + 1) _ _ w4 HD4.out HE4.out.1 HE4.out.2 (by omega)).mono ?_
    rintro e u' wz ⟨rfl, rfl, hdz, hcz, hMz⟩
    refine ⟨_, dec_results wz w.heap.size (w.heap.size + 1) dumpZ (.int .i64 11) _ (by rfl) (by rfl) (hdz.rangeL rfl) rfl hcz, ?_, ?_⟩
    · exact HB4.out.trans (hMz.below_at HB4.out.size (fun k hk e => by rcases e with e | e <;> omega))
    · rw [HRN.out]
  · obtain ⟨stt, stb⟩ := st
    have HX4 := Lib.hid hx
    have HV4 := Lib.hid hv
    have HRD := Lib.hid hr
    have HMD := Lib.hid hM
    have hne : ¬ w.heap.size = ub := by have := HUB.out; omega
    have hd4 := HD3.out.mods hM hne
    have hth := hd4.there
    have hst := hd4.store x.cells rfl
    obtain ⟨w5, hw5⟩ : ∃ w5, w5 = w4.setCells w.heap.size 0 x.cells := ⟨_, rfl⟩
    have hM5 : Mod (· = w.heap.size) w4 w5 := by rw [hw5]; exact Mod.setCellsAt (F := (· = w.heap.size)) (show (· = w.heap.size) w.heap.size from rfl) _ _ _ (Mod.refl _ _)
    have hrg : w5.rangeAt w.heap.size 0 x.cells := by rw [hw5]; exact World.rangeAt_setCells_same _ _ _ _ hth
    rw [← hw5] at hst
    have HW5 := Lib.hid hw5
    have HON : Hid (x.cells.toArray.all (·.oneCell') = true) := Lib.hid (by simp [DmC.cells, Value.oneCell'])
    have hU5 : UnpAt w5 ub stt stb := hU.mods hM5 (fun e => hne e.symm)
    have h45 := hM5.at (hM.at ht4 (by have := HUB.out; omega)) (by have := HUB.out; omega)
    have HT5 := Lib.hid h45
    have HD5 := Lib.hid hst
    have HRG := Lib.hid hrg
    have HE5 : Hid (w5.cell? ⟨w.heap.size + 1, 0, none⟩ = some (.int .i64 0) ∧ w5.frozen? ⟨w.heap.size + 1, 0, none⟩ = false) := Lib.hid ⟨hM5.at (hM.at HE3.out.1 (by have := HUB.out; omega)) (by omega), (hM5.frozen (p := ⟨w.heap.size + 1, 0, none⟩) (Nat.lt_of_lt_of_le (cell_lt HE3.out.1) hM.size) (by show ¬ w.heap.size + 1 = w.heap.size; omega)).trans ((hM.frozen (p := ⟨w.heap.size + 1, 0, none⟩) (cell_lt HE3.out.1) (by show ¬ w.heap.size + 1 = ub; have := HUB.out; omega)).trans HE3.out.2)⟩
    have HB5 := Lib.hid ((HB3.out.trans (hM.below_at (B := w.heap.size) HB3.out.size (fun k hk e => by have := HUB.out; have e : k = ub := e; omega))).trans (hM5.below_at (B := w.heap.size) (Nat.le_trans HB3.out.size hM.size) (fun k hk e => by have e : k = w.heap.size := e; omega)))
    have HX5 : Hid (DmOk w5 (fun k => w.heap.size + 2 ≤ k) x) := Lib.hid (by
      have hz : w.heap.size + 2 ≤ W3.heap.size := by have := HUB.out; omega
      exact ⟨(HX4.out.ino.mod hM5 (fun k hk _ e => by have e : k = w.heap.size := e; have hk : W3.heap.size ≤ k := hk; omega)).sub (fun k _ hk => by have hk : W3.heap.size ≤ k := hk; omega), (HX4.out.nam.mod hM5 (fun k hk _ e => by have e : k = w.heap.size := e; have hk : W3.heap.size ≤ k := hk; omega)).sub (fun k _ hk => by have hk : W3.heap.size ≤ k := hk; omega), (HX4.out.hdl.mod hM5 (fun k hk _ e => by have e : k = w.heap.size := e; have hk : W3.heap.size ≤ k := hk; omega)).sub (fun k _ hk => by have hk : W3.heap.size ≤ k := hk; omega), HX4.out.i1, HX4.out.n1, HX4.out.h1⟩)
    clear hx hv hr hM hd4 hst hw5 hM5 hrg h45 hU ht4
    go_wp2_with (refine wpList_store_mid (by rfl) 32 _ _ (by rfl) w.heap.size 0 x.cells.toArray (by rfl) (by rfl) hth (by kernel_rfl) HON.out ?_; rw [← HW5.out])
    by_cases hend : stb = true ∨ 0 < stt.size
    · have HRN : Hid (r = none) := Lib.hid (by rw [HR.out]; unfold decP; rw [HRD.out]; simp only; rw [if_pos hend])
      have he := fun W (h : UnpAt W ub stt stb) => unEnd_any W ub stt stb h
      simp only [if_pos hend] at he
      have hU6 : UnpAt w5.drew ub stt stb := hU5.mods (F := none') ((Mod.refl _ _).drew) id
      have he6 := he _ hU6
      have HS5 : Hid (w5.drew.cell? ⟨rb, 0, none⟩ = some (.pointer (some ⟨ub, 0, none⟩))) := Lib.hid HT5.out
      clear hU5 hU6 he hth
      go_wp2_with fail
      refine wp_region_held_drew (S := fun W => W.cell? ⟨rb, 0, none⟩ = some (.pointer (some ⟨ub, 0, none⟩))) (by kernel_rfl) HS5.out (fun hHeld => ?_)
      refine takeL 0 ?_ (by (simp only [opL, List.getElem?_toArray, List.getElem?_cons_succ, List.getElem?_cons_zero, Option.getD_some]; refine ⟨?_, Or.inl ⟨by rfl, ?_⟩, ?_, ?_, ?_⟩; rotate_left 1; (· intro w hSw; (try dsimp only at hSw); go_simp; try with_reducible rfl); (· exact fun _ _ _ h => dec_put (by decide) (by decide) h); (· simp only [Act.put, List.setIfInBounds_toArray, List.set_cons_zero, List.set_cons_succ]; rfl); (· rfl)))
      refine takeL 1 ?_ (by (simp only [opL, List.getElem?_toArray, List.getElem?_cons_succ, List.getElem?_cons_zero, Option.getD_some]; refine ⟨?_, Or.inl ⟨by rfl, ?_⟩, ?_, ?_, ?_⟩; rotate_left 1; (· intro w hSw; (try dsimp only at hSw); go_simp; try with_reducible rfl); (· exact fun _ _ _ h => dec_put (by decide) (by decide) h); (· simp only [Act.put, List.setIfInBounds_toArray, List.set_cons_zero, List.set_cons_succ]; rfl); (· rfl)))
      refine wpAnyH_ready (rs := [2]) (by kernel_rfl) (by simp) ?_
      refine AllReadyH.cons (o := _) rfl (fun K hK => ?_) AllReadyH.nil
      go_simp
      refine he6.mono ?_
      rintro e w6 ⟨rfl, rfl⟩
      try go_wp2_with fail
      refine hK.out _ _ HS5.out (fun hHeld => ?_)
      clear hK K
      try simp only [Act.put, List.setIfInBounds_toArray, List.set_cons_zero, List.set_cons_succ]
      refine takeL 3 ?_ (by (simp only [opL, List.getElem?_toArray, List.getElem?_cons_succ, List.getElem?_cons_zero, Option.getD_some]; refine ⟨?_, Or.inl ⟨by rfl, ?_⟩, ?_, ?_, ?_⟩; rotate_left 1; (· intro w hSw; (try dsimp only at hSw); go_simp; try with_reducible rfl); (· exact fun _ _ _ h => dec_put (by decide) (by decide) h); (· simp only [Act.put, List.setIfInBounds_toArray, List.set_cons_zero, List.set_cons_succ]; rfl); (· rfl)))
      refine takeL 4 ?_ (by (simp only [opL, List.getElem?_toArray, List.getElem?_cons_succ, List.getElem?_cons_zero, Option.getD_some]; refine ⟨?_, Or.inl ⟨by rfl, ?_⟩, ?_, ?_, ?_⟩; rotate_left 1; (· intro w hSw; (try dsimp only at hSw); go_simp; try with_reducible rfl); (· exact fun _ _ _ h => dec_put (by decide) (by decide) h); (· simp only [Act.put, List.setIfInBounds_toArray, List.set_cons_zero, List.set_cons_succ]; rfl); (· rfl)))
      refine takeU 5 ?_ (by (simp only [opL, List.getElem?_toArray, List.getElem?_cons_succ, List.getElem?_cons_zero, Option.getD_some]; refine ⟨by rfl, ?_, ?_, ?_⟩; (· exact fun _ _ _ h => dec_put (by decide) (by decide) h); (· simp only [Act.put, List.setIfInBounds_toArray, List.set_cons_zero, List.set_cons_succ]; rfl); (· rfl)))
      refine takeU 6 ?_ (by (simp only [opL, List.getElem?_toArray, List.getElem?_cons_succ, List.getElem?_cons_zero, Option.getD_some]; refine ⟨by rfl, ?_, ?_, ?_⟩; (· exact fun _ _ _ h => dec_put (by decide) (by decide) h); (· simp only [Act.put, List.setIfInBounds_toArray, List.set_cons_zero, List.set_cons_succ]; rfl); (· rfl)))
      refine takeU 7 ?_ (by (simp only [opL, List.getElem?_toArray, List.getElem?_cons_succ, List.getElem?_cons_zero, Option.getD_some]; refine ⟨by rfl, ?_, ?_, ?_⟩; (· exact fun _ _ _ h => dec_put (by decide) (by decide) h); (· simp only [Act.put, List.setIfInBounds_toArray, List.set_cons_zero, List.set_cons_succ]; rfl); (· rfl)))
      refine takeU 8 ?_ (by (simp only [opL, List.getElem?_toArray, List.getElem?_cons_succ, List.getElem?_cons_zero, Option.getD_some]; refine ⟨by rfl, ?_, ?_, ?_⟩; (· exact fun _ _ _ h => dec_put (by decide) (by decide) h); (· simp only [Act.put, List.setIfInBounds_toArray, List.set_cons_zero, List.set_cons_succ]; rfl); (· rfl)))
      refine takeL 9 ?_ (by (simp only [opL, List.getElem?_toArray, List.getElem?_cons_succ, List.getElem?_cons_zero, Option.getD_some]; refine ⟨?_, Or.inl ⟨by rfl, ?_⟩, ?_, ?_, ?_⟩; rotate_left 1; (· intro w hSw; (try dsimp only at hSw); go_simp; try with_reducible rfl); (· exact fun _ _ _ h => dec_put (by decide) (by decide) h); (· simp only [Act.put, List.setIfInBounds_toArray, List.set_cons_zero, List.set_cons_succ]; rfl); (· rfl)))
      refine wpAnyH_done (by kernel_rfl) ?_ _
      clear hHeld he6
      have HD6 := Lib.hid (HD5.out.mods (F := none') ((Mod.refl _ _).drew) id)
      have HE6 : Hid (w5.drew.cell? ⟨w.heap.size + 1, 0, none⟩ = some (.int .i64 0) ∧ w5.drew.frozen? ⟨w.heap.size + 1, 0, none⟩ = false) := Lib.hid HE5.out
      have HB6 := Lib.hid HB5.out.drew
      go_wp2_with fail
      refine leaves_cons (f := 18) (args := #[.pointer (some ⟨w.heap.size, 0, none⟩), .pointer (some ⟨w.heap.size + 1, 0, none⟩)]) (by simp) (by simp [go_sem]) ?_
      refine (dec1_panic w.heap.size (w.heap.size + 1) _ _ w5.drew HD6.out HE6.out.1 HE6.out.2 (by omega)).mono ?_
      rintro e u' wz ⟨rfl, rfl, hdz, hcz, hMz⟩
      refine ⟨_, dec_results wz w.heap.size (w.heap.size + 1) dumpZ (.int .i64 11) _ (by rfl) (by rfl) (hdz.rangeL rfl) rfl hcz, ?_, ?_⟩
      · exact HB6.out.trans (hMz.below_at HB6.out.size (fun k hk e => by rcases e with e | e <;> omega))
      · rw [HRN.out]
    · have he := fun W (h : UnpAt W ub stt stb) => unEnd_any W ub stt stb h
      simp only [if_neg hend] at he
      have hU6 : UnpAt w5.drew ub stt stb := hU5.mods (F := none') ((Mod.refl _ _).drew) id
      have he6 := he _ hU6
      have hlo := HLD.out v (stt, stb) HRD.out
      have HLO := Lib.hid hlo
      have HRV : Hid (r = if ldf v = 0 then some v else none) := Lib.hid (by rw [HR.out]; unfold decP; rw [HRD.out]; simp only; rw [if_neg hend])
      have HS5 : Hid (w5.drew.cell? ⟨rb, 0, none⟩ = some (.pointer (some ⟨ub, 0, none⟩)) ∧ w5.drew.rangeAt w.heap.size 0 x.cells) := Lib.hid ⟨HT5.out, HRG.out⟩
      clear hU5 hU6 he hth hlo hend
      go_wp2_with fail
      refine wp_region_held_drew (S := fun W => W.cell? ⟨rb, 0, none⟩ = some (.pointer (some ⟨ub, 0, none⟩)) ∧ W.rangeAt w.heap.size 0 x.cells) (by kernel_rfl) HS5.out (fun hHeld => ?_)
      refine takeL 0 ?_ (by (simp only [opL, List.getElem?_toArray, List.getElem?_cons_succ, List.getElem?_cons_zero, Option.getD_some]; refine ⟨?_, Or.inl ⟨by rfl, ?_⟩, ?_, ?_, ?_⟩; rotate_left 1; (· intro w hSw; (try dsimp only at hSw); go_simp; try with_reducible rfl); (· exact fun _ _ _ h => dec_put (by decide) (by decide) h); (· simp only [Act.put, List.setIfInBounds_toArray, List.set_cons_zero, List.set_cons_succ]; rfl); (· rfl)))
      refine takeL 1 ?_ (by (simp only [opL, List.getElem?_toArray, List.getElem?_cons_succ, List.getElem?_cons_zero, Option.getD_some]; refine ⟨?_, Or.inl ⟨by rfl, ?_⟩, ?_, ?_, ?_⟩; rotate_left 1; (· intro w hSw; (try dsimp only at hSw); go_simp; try with_reducible rfl); (· exact fun _ _ _ h => dec_put (by decide) (by decide) h); (· simp only [Act.put, List.setIfInBounds_toArray, List.set_cons_zero, List.set_cons_succ]; rfl); (· rfl)))
      refine wpAnyH_ready (rs := [2]) (by kernel_rfl) (by simp) ?_
      refine AllReadyH.cons (o := _) rfl (fun K hK => ?_) AllReadyH.nil
      go_simp
      refine he6.mono ?_
      rintro e w6 ⟨rfl, rfl⟩
      try go_wp2_with fail
      refine hK.out _ _ HS5.out (fun hHeld => ?_)
      clear hK K
      try simp only [Act.put, List.setIfInBounds_toArray, List.set_cons_zero, List.set_cons_succ]
      refine takeL 3 ?_ (by (simp only [opL, List.getElem?_toArray, List.getElem?_cons_succ, List.getElem?_cons_zero, Option.getD_some]; refine ⟨?_, Or.inl ⟨by rfl, ?_⟩, ?_, ?_, ?_⟩; rotate_left 1; (· intro w hSw; (try dsimp only at hSw); go_simp; try with_reducible rfl); (· exact fun _ _ _ h => dec_put (by decide) (by decide) h); (· simp only [Act.put, List.setIfInBounds_toArray, List.set_cons_zero, List.set_cons_succ]; rfl); (· rfl)))
      refine takeL 4 ?_ (by (simp only [opL, List.getElem?_toArray, List.getElem?_cons_succ, List.getElem?_cons_zero, Option.getD_some]; refine ⟨?_, Or.inl ⟨by rfl, ?_⟩, ?_, ?_, ?_⟩; rotate_left 1; (· intro w hSw; (try dsimp only at hSw); go_simp; try with_reducible rfl); (· exact fun _ _ _ h => dec_put (by decide) (by decide) h); (· simp only [Act.put, List.setIfInBounds_toArray, List.set_cons_zero, List.set_cons_succ]; rfl); (· rfl)))
      refine takeL 6 ?_ (by (simp only [opL, List.getElem?_toArray, List.getElem?_cons_succ, List.getElem?_cons_zero, Option.getD_some]; exact ⟨_, yieldsIf_load_mid (by rfl) 32 _ (by rfl) w.heap.size 0 (by rfl) x.cells _ (fun W h => h.2) Tryz.underlying32 rfl (by kernel_rfl), fun _ _ _ h => dec_put (by decide) (by decide) h, (by simp only [Act.put, List.setIfInBounds_toArray, List.set_cons_zero, List.set_cons_succ]; rfl), rfl⟩))
      refine wpAnyH_ready (rs := [5]) (by kernel_rfl) (by simp) ?_
      refine AllReadyH.cons (o := _) rfl (fun K hK => ?_) AllReadyH.nil
      go_simp
      refine (stNew_any _).mono ?_
      rintro e w7 ⟨sb, rfl, hS, hB7⟩
      have HSB : Hid (w5.heap.size ≤ sb) := Lib.hid hS.sb.1
      have hB7 : Below w5.heap.size w5 w7 := ((Below.refl _ w5).drew).trans hB7
      have HB7 := Lib.hid hB7
      have hS7 : w7.cell? ⟨rb, 0, none⟩ = some (.pointer (some ⟨ub, 0, none⟩)) ∧ w7.rangeAt w.heap.size 0 x.cells := ⟨below_at hB7 HT5.out (cell_lt HT5.out), fun j v hv => below_at hB7 (HRG.out j v hv) (cell_lt (HRG.out j v hv))⟩
      have HX7 := Lib.hid (dmOk_sub HX5.out (fun k hl hk => (⟨hk, hl⟩ : w.heap.size + 2 ≤ k ∧ k < w5.heap.size)))
      have HX7 := Lib.hid (dmOk_mod HX7.out (Mod.of_below (F := none') hB7) (fun k hk _ e => e))
      have hlo := HLO.out w7 sb _ _ x hS HX7.out HV4.out
      clear hB7 hS
      try go_wp2_with fail
      refine hK.out _ _ hS7 (fun hHeld => ?_)
      clear hK K
      try simp only [Act.put, List.setIfInBounds_toArray, List.set_cons_zero, List.set_cons_succ]
      refine wpAnyH_ready (rs := [7]) (by kernel_rfl) (by simp) ?_
      refine AllReadyH.cons (o := _) rfl (fun K hK => ?_) AllReadyH.nil
      go_simp
      refine hlo.mono ?_
      clear hlo
      rintro e w8 ⟨rfl, hM8⟩
      have hsl : w5.heap.size ≤ sb := HSB.out
      have hS8 : w8.cell? ⟨rb, 0, none⟩ = some (.pointer (some ⟨ub, 0, none⟩)) ∧ w8.rangeAt w.heap.size 0 x.cells := ⟨hM8.at hS7.1 (fun e => by have := cell_lt HT5.out; have e : rb = sb := e; omega), fun j v hv => hM8.at (hS7.2 j v hv) (fun e => by have := cell_lt (HRG.out j v hv); have e : w.heap.size = sb := e; have h5 : w.heap.size < w5.heap.size := this; omega)⟩
      have HX8 := Lib.hid (dmOk_mod HX7.out hM8 (fun k hk _ e => by have e : k = sb := e; omega))
      have hB58 : Below w5.heap.size w5 w8 := HB7.out.trans (hM8.below_at HB7.out.size (fun k hk e => by have e : k = sb := e; omega))
      have HB8 := Lib.hid (HB5.out.trans (hB58.mono HB5.out.size))
      have HD8 := Lib.hid (HD5.out.below hB58)
      have HE8 : Hid (w8.cell? ⟨w.heap.size + 1, 0, none⟩ = some (.int .i64 0) ∧ w8.frozen? ⟨w.heap.size + 1, 0, none⟩ = false) := Lib.hid ⟨below_at hB58 HE5.out.1 (cell_lt HE5.out.1), ((Mod.of_below (F := none') hB58).frozen (p := ⟨w.heap.size + 1, 0, none⟩) (cell_lt HE5.out.1) id).trans HE5.out.2⟩
      have HS8 := Lib.hid hS8
      clear hM8 hB58 hS7
      try go_wp2_with fail
      refine hK.out _ _ HS8.out (fun hHeld => ?_)
      clear hK K
      try simp only [Act.put, List.setIfInBounds_toArray, List.set_cons_zero, List.set_cons_succ]
      obtain ⟨ld, hldv⟩ : ∃ ld, ld = ldf v := ⟨_, rfl⟩
      rw [← hldv] at HRV ⊢
      clear hldv
      refine takeL 8 ?_ (by (simp only [opL, List.getElem?_toArray, List.getElem?_cons_succ, List.getElem?_cons_zero, Option.getD_some]; refine ⟨?_, Or.inl ⟨by rfl, ?_⟩, ?_, ?_, ?_⟩; rotate_left 1; (· intro w hSw; (try dsimp only at hSw); go_simp; try with_reducible rfl); (· exact fun _ _ _ h => dec_put (by decide) (by decide) h); (· simp only [Act.put, List.setIfInBounds_toArray, List.set_cons_zero, List.set_cons_succ]; rfl); (· rfl)))
      refine takeL 9 ?_ (by (simp only [opL, List.getElem?_toArray, List.getElem?_cons_succ, List.getElem?_cons_zero, Option.getD_some]; refine ⟨?_, Or.inl ⟨by rfl, ?_⟩, ?_, ?_, ?_⟩; rotate_left 1; (· intro w hSw; (try dsimp only at hSw); go_simp; try with_reducible rfl); (· exact fun _ _ _ h => dec_put (by decide) (by decide) h); (· simp only [Act.put, List.setIfInBounds_toArray, List.set_cons_zero, List.set_cons_succ]; rfl); (· rfl)))
      refine wpAnyH_done (by kernel_rfl) ?_ _
      clear hHeld he6 hS8
      by_cases hz : ld = 0
      · subst hz
        have HRN : Hid (r = some v) := Lib.hid (by rw [HRV.out, if_pos rfl])
        have hth := HD8.out.there
        have hst := HD8.out.store x.cells rfl
        obtain ⟨w9, hw9⟩ : ∃ w9, w9 = w8.setCells w.heap.size 0 x.cells := ⟨_, rfl⟩
        have hM9 : Mod (· = w.heap.size) w8 w9 := by rw [hw9]; exact Mod.setCellsAt (F := (· = w.heap.size)) (show (· = w.heap.size) w.heap.size from rfl) _ _ _ (Mod.refl _ _)
        have hrg9 : w9.rangeAt w.heap.size 0 x.cells := by rw [hw9]; exact World.rangeAt_setCells_same _ _ _ _ hth
        have he9 := hM9.at HE8.out.1 (show ¬ w.heap.size + 1 = w.heap.size by omega)
        have hf9 := (hM9.frozen (p := ⟨w.heap.size + 1, 0, none⟩) (cell_lt HE8.out.1) (show ¬ w.heap.size + 1 = w.heap.size by omega)).trans HE8.out.2
        have hel := cell_lt he9
        have HM9 := Lib.hid hM9
        have HR9 := Lib.hid hrg9
        have HW9 := Lib.hid hw9
        have HRG8 := Lib.hid HS8.out.2
        clear hst hw9 hM9 hrg9
        go_wp2_with (first
          | (refine wpList_load_mid (by rfl) 32 _ (by rfl) w.heap.size 0 (by rfl) x.cells _ HRG8.out Tryz.underlying32 rfl (by kernel_rfl) ?_)
          | (refine wpList_store_mid (by rfl) 32 _ _ (by rfl) w.heap.size 0 x.cells.toArray (by rfl) (by rfl) hth (by kernel_rfl) HON.out ?_; rw [← HW9.out]))
        refine leaves_cons (f := 18) (args := #[.pointer (some ⟨w.heap.size, 0, none⟩), .pointer (some ⟨w.heap.size + 1, 0, none⟩)]) (by simp) (by simp [go_sem]) ?_
        refine (dec1_idle ⟨w.heap.size, 0, none⟩ ⟨w.heap.size + 1, 0, none⟩ _).mono ?_
        rintro e u' wz ⟨rfl, rfl, rfl⟩
        have hMs : Mod (· = w.heap.size + 1) w9 (w9.setCell ⟨w.heap.size + 1, 0, none⟩ (.int .i64 0)) := (Mod.refl (· = w.heap.size + 1) w9).setCellAt (fun _ => rfl) _
        refine ⟨_, dec_results _ w.heap.size (w.heap.size + 1) x.cells (.int .i64 0) _ (by rfl) (by rfl) (fun j v hv => hMs.at (HR9.out j v hv) (show ¬ w.heap.size = w.heap.size + 1 by omega)) rfl (by go_simp), ?_, ?_⟩
        · exact (HB8.out.trans (HM9.out.below_at HB8.out.size (fun k hk e => by have e : k = w.heap.size := e; omega))).trans (hMs.below_at (Nat.le_trans HB8.out.size HM9.out.size) (fun k hk e => by have e : k = w.heap.size + 1 := e; omega))
        · rw [HRN.out]
          exact ⟨x, rfl, dmOk_sub (dmOk_mod (dmOk_mod HX8.out HM9.out (fun k hk _ e => by have e : k = w.heap.size := e; omega)) hMs (fun k hk _ e => by have e : k = w.heap.size + 1 := e; omega)) (fun k _ hk => by show w.heap.size ≤ k; omega), HV4.out⟩
      · have hz2 : (ld != 0) = true := by simpa using hz
        have HRN : Hid (r = none) := Lib.hid (by rw [HRV.out, if_neg hz])
        clear hz
        go_wp2_with fail
        refine leaves_cons (f := 18) (args := #[.pointer (some ⟨w.heap.size, 0, none⟩), .pointer (some ⟨w.heap.size + 1, 0, none⟩)]) (by simp) (by simp [go_sem]) ?_
        refine (dec1_panic w.heap.size (w.heap.size + 1) _ _ w8 HD8.out HE8.out.1 HE8.out.2 (by omega)).mono ?_
        rintro e u' wz ⟨rfl, rfl, hdz, hcz, hMz⟩
        refine ⟨_, dec_results wz w.heap.size (w.heap.size + 1) dumpZ (.int .i64 11) _ (by rfl) (by rfl) (hdz.rangeL rfl) rfl hcz, ?_, ?_⟩
        · exact HB8.out.trans (hMz.below_at HB8.out.size (fun k hk e => by rcases e with e | e <;> omega))
        · rw [HRN.out]
end Go.Proofs.YtmnkackkeppheaaGreat
