import Derived.Test.YtmnkackkeppheaaGreatPkOpM
import Derived.Deep.DrawnRows
import Derived.Shelf.SlSortCmp.NoneTotal
/- package dir: New, Find, Count, Add, Drop -/
namespace Esch
open Go Go.RowKit
def kV (k : DK) : Value := .agg #[.int .i64 k.1, .string (bs k.2)]
def iV (i : Int) : Value := .int .i64 i
theorem bs_beq (a b : Nm) : (bs a == bs b) = decide (a = b) := by
  show (a.toArray == b.toArray) = _
  by_cases h : a = b <;> simp [h]
section
variable {P : Program} {t : TypeId}
theorem check_str (ht : P.underlying t = some .string) (e : Bool) (k : ByteArray) (w : World) : ∀ n, (Instr.checkKey e (n + 1) t (.string k)).run P w = .ok () w := fun n => by
  simp [Instr.checkKey, run_underlying ht, Result.andThen]
theorem equal_str (ht : P.underlying t = some .string) (a b : Nm) (w : World) : ∀ n, (Op.equalIn (n + 1) t (.string (bs a)) (.string (bs b))).run P w = .ok (decide (a = b)) w := fun n => by
  simp only [Op.equalIn]
  rw [run_bind' _ _ _ _ (run_underlying ht w)]
  simp [bs_beq]
theorem isAgg_str (ht : P.underlying t = some .string) (w : World) : (isAgg t).run P w = .ok false w := by
  simp [isAgg, run_underlying ht, Result.andThen]
theorem part_str (ht : P.underlying t = some .string) (cs : Array Value) (o : Nat) (v : Value) (h : cs[o]? = some v) (w : World) : (part t cs o).run P w = .ok v w := by
  unfold part
  rw [run_bind' _ _ _ _ (isAgg_str ht w)]
  simp [h]
theorem keyOK_is {f g : Field} (ht : P.underlying t = some (.struct #[f, g])) (hn : f.name ≠ "_") (ho : f.offset = 0) (hf : P.underlying f.type = some (.int .i64)) (hn' : g.name ≠ "_") (ho' : g.offset = 1) (hg : P.underlying g.type = some .string) (hs : P.stoodInHeld t = false) : KeyOK P t kV := by
  refine keyOK_agg ht (fun a v => by cases v <;> simp [Instr.sameNow]) (fun a b w => ?_) (fun e k w => ?_) (fun k => ?_)
  · show (Op.equalIn (9998 + 1 + 1) t (kV a) (kV b)).run P w = _
    generalize 9998 = n
    unfold Op.equalIn
    rw [run_bind' _ _ _ _ (run_underlying ht w)]
    obtain ⟨a1, a2⟩ := a
    obtain ⟨b1, b2⟩ := b
    simp only [kV, program]
    have f1 := fun w => part_int hf (#[Value.int .i64 a1, Value.string (bs a2)] : Array Value) f.offset (.int .i64 a1) (by simp [ho]) w
    have f2 := fun w => part_int hf (#[Value.int .i64 b1, Value.string (bs b2)] : Array Value) f.offset (.int .i64 b1) (by simp [ho]) w
    have g1 := fun w => part_str hg (#[Value.int .i64 a1, Value.string (bs a2)] : Array Value) g.offset (.string (bs a2)) (by simp [ho']) w
    have g2 := fun w => part_str hg (#[Value.int .i64 b1, Value.string (bs b2)] : Array Value) g.offset (.string (bs b2)) (by simp [ho']) w
    have q1 := fun w => equal_int hf a1 b1 w n
    have q2 := fun w => equal_str hg a2 b2 w n
    by_cases h : a1 = b1
    · subst h
      by_cases h2 : a2 = b2
      · subst h2
        simp [Sem.run, f1, g1, q1, q2, hn, hn', Result.andThen, hs]
      · simp [Sem.run, f1, f2, g1, g2, q1, q2, hn, hn', Result.andThen, hs, h2]
    · simp [Sem.run, f1, f2, q1, hn, Result.andThen, hs, h]
  · show (Instr.checkKey e (9998 + 1 + 1) t (kV k)).run P w = _
    generalize 9998 = n
    unfold Instr.checkKey
    rw [run_bind' _ _ _ _ (run_underlying ht w)]
    obtain ⟨a1, a2⟩ := k
    simp [kV, part_int hf _ _ _ (show (#[Value.int .i64 a1, Value.string (bs a2)] : Array Value)[f.offset]? = some (.int .i64 a1) by simp [ho]), part_str hg _ _ _ (show (#[Value.int .i64 a1, Value.string (bs a2)] : Array Value)[g.offset]? = some (.string (bs a2)) by simp [ho']), check_int hf, check_str hg, hn, hn', Result.andThen]
  · show Instr.sameBits (9998 + 1 + 1) _ _ = true
    generalize 9998 = n
    obtain ⟨a1, a2⟩ := k
    simp [Instr.sameBits, kV]
    rw [bs_beq]; simp
end
/-- a map of S that holds the pairs of m, in one order or another of their making -/
def MpAt {K V : Type} (w : World) (mb : Nat) (κ : K → Value) (ν : V → Value) (m : List (K × V)) : Prop := ∃ es clock, MapAt w mb κ ν m es clock
theorem MpAt.lt {K V : Type} {w : World} {mb : Nat} {κ : K → Value} {ν : V → Value} {m : List (K × V)} (h : MpAt w mb κ ν m) : mb < w.heap.size := by obtain ⟨_, _, h⟩ := h; exact block_lt h.block
theorem MpAt.mod {K V : Type} {w w' : World} {F : Nat → Prop} {mb : Nat} {κ : K → Value} {ν : V → Value} {m : List (K × V)} (h : MpAt w mb κ ν m) (hM : Mod F w w') (hF : ¬ F mb) : MpAt w' mb κ ν m := by
  obtain ⟨es, c, h⟩ := h
  exact ⟨es, c, h.of_block (hM.block mb (block_lt h.block) hF)⟩
/-- names in directories -/
structure DirAt (w : World) (b : Nat) (S : Nat → Prop) (s : DirS) : Prop where
  sb : S b
  lt : ∀ k, S k → k < w.heap.size
  ex : ∃ mb cb, w.cell? ⟨b, 0, none⟩ = some (.map (some mb)) ∧ w.cell? ⟨b, 1, none⟩ = some (.map (some cb)) ∧ MpAt w mb kV iV s.m ∧ MpAt w cb iV iV s.c ∧ S mb ∧ S cb ∧ mb ≠ cb ∧ mb ≠ b ∧ cb ≠ b
theorem DirAt.mod {w w' : World} {b : Nat} {S F : Nat → Prop} {s : DirS} (h : DirAt w b S s) (hM : Mod F w w') (hF : ∀ k, S k → ¬ F k) : DirAt w' b S s := by
  obtain ⟨sb, lt, mb, cb, c0, c1, hm, hc, sm, sc, n1, n2, n3⟩ := h
  exact ⟨sb, fun k hk => Nat.lt_of_lt_of_le (lt k hk) hM.size, mb, cb, hM.at c0 (hF b sb), hM.at c1 (hF b sb), hm.mod hM (hF mb sm), hc.mod hM (hF cb sc), sm, sc, n1, n2, n3⟩
theorem DirAt.below' {w w' : World} {b : Nat} {S : Nat → Prop} {s : DirS} (h : DirAt w b S s) (hB : Below w.heap.size w w') : DirAt w' b S s := h.mod (F := none') (Mod.of_below hB) fun _ _ => id
end Esch
namespace Go.Proofs.YtmnkackkeppheaaGreat
open Go.RowKit Esch Go.Shelf

theorem keyDir : KeyOK Tryz.prog 221 kV := keyOK_is Tryz.underlying221 (by decide) rfl Tryz.underlying3 (by decide) rfl Tryz.underlying9 (by kernel_rfl)
theorem keyInt : KeyOK Tryz.prog 3 iV := keyOK_int Tryz.underlying3
set_option maxHeartbeats 1000000 in
theorem dirNew_any (w : World) : Calls Tryz.prog 75 #[] w fun e w' => ∃ b, e = .returned (.pointer (some ⟨b, 0, none⟩)) ∧ DirAt w' b (fun k => w.heap.size ≤ k ∧ k < w'.heap.size) ⟨[], []⟩ ∧ Below w.heap.size w w' := by
  have hmm := @run_makeMap Tryz.prog
  go_enter Tryz.func75, Tryz.ntmps75
  go_wp2_with fail
  go_ret
  refine ⟨w.heap.size + 2, rfl, ⟨⟨by omega, by simp⟩, fun k hk => hk.2, w.heap.size, w.heap.size + 1, by go_simp, by go_simp, ⟨#[], 0, ?_, rfl, List.nodup_nil, List.Pairwise.nil, fun e h => by simp at h⟩, ⟨#[], 0, ?_, rfl, List.nodup_nil, List.Pairwise.nil, fun e h => by simp at h⟩, ⟨Nat.le_refl _, by simp; omega⟩, ⟨by omega, by simp⟩, by omega, by omega, by omega⟩, by exact belC (Below.refl _ _)⟩
  · rw [alloc_old _ _ _ (by simp; omega), alloc_old _ _ _ (by simp), alloc_new]
  · rw [alloc_old _ _ _ (by simp)]
    have := alloc_new (w.alloc (.map #[] 0)) (.map #[] 0)
    rwa [World.size_alloc] at this
theorem dirFind_any (w : World) (b : Nat) (S : Nat → Prop) (s : DirS) (h : DirAt w b S s) (d : Int) (n : Nm) :
    Calls Tryz.prog 122 #[.pointer (some ⟨b, 0, none⟩), .int .i64 d, .string (bs n)] w fun e w' => e = .returned (.tuple #[.int .i64 ((s.find d n).getD 0), .bool (s.find d n).isSome]) ∧ w' = w := by
  obtain ⟨sb, lt, mb, cb, c0, c1, ⟨es, ck, hm⟩, hc, sm, sc, n1, n2, n3⟩ := h
  have hl := hm.look keyDir Tryz.underlying213 (z := .int .i64 0) (fun w => Tryz.zeroValue3 w) (d, n) true
  simp only [if_true, kV] at hl
  rw [show ((get s.m (d, n)).map iV).getD (Value.int .i64 0) = .int .i64 ((get s.m (d, n)).getD 0) by cases get s.m (d, n) <;> rfl] at hl
  unfold DirS.find
  generalize (get s.m (d, n)).getD 0 = x at hl ⊢
  generalize (get s.m (d, n)).isSome = y at hl ⊢
  clear hm
  go_enter Tryz.func122, Tryz.ntmps122
  go_wp2_with fail
  go_ret2
  exact ⟨rfl, rfl⟩
def DirPost (w : World) (b : Nat) (S : Nat → Prop) (r : Int × DirS) (e : Ending) (w' : World) : Prop := e = .returned (.int .i64 r.1) ∧ DirAt w' b S r.2 ∧ Mod S w w'
/-- a map of two is written -/
theorem _root_.Esch.DirAt.put {w W : World} {b mb cb : Nat} {S : Nat → Prop} {s : DirS} {m' : List Ent} {c' : List (Int × Int)} (h : DirAt w b S s) (c0 : w.cell? ⟨b, 0, none⟩ = some (.map (some mb))) (c1 : w.cell? ⟨b, 1, none⟩ = some (.map (some cb)))
    (hM : Mod (fun k => k = mb ∨ k = cb) w W) (hm : MpAt W mb kV iV m') (hc : MpAt W cb iV iV c') : DirAt W b S ⟨m', c'⟩ ∧ Mod S w W := by
  obtain ⟨sb, lt, mb', cb', d0, d1, -, -, sm, sc, n1, n2, n3⟩ := h
  obtain rfl : mb' = mb := by rw [d0] at c0; cases c0; rfl
  obtain rfl : cb' = cb := by rw [d1] at c1; cases c1; rfl
  have hb : ¬ (b = mb' ∨ b = cb') := fun h => h.elim (fun e => n2 e.symm) (fun e => n3 e.symm)
  exact ⟨⟨sb, fun k hk => Nat.lt_of_lt_of_le (lt k hk) hM.size, mb', cb', hM.at d0 hb, hM.at d1 hb, hm, hc, sm, sc, n1, n2, n3⟩, hM.mono fun k _ hk => by rcases hk with rfl | rfl <;> assumption⟩
theorem MapAt.upd {P : Program} {K V : Type} [DecidableEq K] {κ : K → Value} {ν : V → Value} {m : List (K × V)} {w : World} {b : Nat} {mt kt et : TypeId} (h : MpAt w b κ ν m) (hK : KeyOK P kt κ) (ht : P.underlying mt = some (.map kt et)) (k : K) (u : V) :
    ∃ W, (Instr.mapUpdate mt (.map (some b)) (κ k) (ν u)).run P w = .ok () W ∧ MpAt W b κ ν (Esch.set m k u) ∧ Mod (· = b) w W := by
  obtain ⟨es, c, h⟩ := h
  obtain ⟨es', c', h1, h2⟩ := h.update hK ht k u
  exact ⟨_, h1, ⟨_, _, h2⟩, (Mod.refl (· = b) w).putObj (fun _ => rfl) _⟩
theorem count_look {P : Program} {w : World} {cb : Nat} {s : DirS} {mt kt et : TypeId} (h : MpAt w cb iV iV s.c) (hK : KeyOK P kt iV) (ht : P.underlying mt = some (.map kt et)) (hz : ∀ w, (zeroValue et).run P w = .ok (.int .i64 0) w) (d : Int) :
    (Instr.lookup mt (.map (some cb)) (.int .i64 d) false).run P w = .ok (.int .i64 (s.count d)) w := by
  obtain ⟨es, c, h⟩ := h
  have hl := h.look hK ht hz d false
  simp only [Bool.false_eq_true, if_false] at hl
  rwa [show ((get s.c d).map iV).getD (Value.int .i64 0) = .int .i64 (s.count d) by unfold DirS.count; cases get s.c d <;> rfl] at hl
set_option maxRecDepth 100000 in
set_option maxHeartbeats 4000000 in
theorem dirAdd_any (w : World) (b : Nat) (S : Nat → Prop) (s : DirS) (h : DirAt w b S s) (d : Int) (n : Nm) (i : Int) (hc0 : 0 ≤ s.count d) (hc1 : s.count d ≤ 64) :
    Calls Tryz.prog 91 #[.pointer (some ⟨b, 0, none⟩), .int .i64 d, .string (bs n), .int .i64 i] w (DirPost w b S (s.add d n i)) := by
  have hfi := fun W hW => dirFind_any W b S s hW d n
  have hnm := fun W => name_any W n
  have H := Lib.hid h
  obtain ⟨sb, lt, mb, cb, c0, c1, hm, hc, sm, sc, n1, n2, n3⟩ := h
  have hl := count_look hc keyInt Tryz.underlying195 (fun w => Tryz.zeroValue3 w) d
  obtain ⟨rs, hrs⟩ : ∃ rs, rs = s.add d n i := ⟨_, rfl⟩
  cases hn : nameL n
  · rw [hn] at hnm
    have h11 : s.add d n i = (11, s) := by unfold DirS.add; rw [hn]; rfl
    rw [show s.add d n i = rs from hrs.symm]
    rw [h11] at hrs
    subst hrs
    generalize (s.find d n).getD 0 = x at hfi
    generalize (s.find d n).isSome = y at hfi
    clear hm hc hl hc0 hc1
    go_enter Tryz.func91, Tryz.ntmps91
    go_wp2_with fail
    refine (hfi _ H.out).mono ?_
    clear hfi
    rintro e w1 ⟨rfl, rfl⟩
    go_wp2_with fail
    refine (hnm _).mono ?_
    clear hnm
    rintro e w2 ⟨rfl, rfl⟩
    go_wp2_with fail
    go_ret
    exact ⟨rfl, H.out, Mod.refl _ _⟩
  rw [hn] at hnm
  have hadd : s.add d n i = if d < 1 ∨ 2147483647 < d ∨ i < 1 ∨ 2147483647 < i then (1, s) else if (s.find d n).isSome = true then (61, s) else if 64 ≤ s.count d then (67, s) else (0, ⟨set s.m (d, n) i, set s.c d (s.count d + 1)⟩) := by
    unfold DirS.add; rw [hn]; rfl
  by_cases k1 : d < 1
  · skip
    rw [show s.add d n i = rs from hrs.symm]
    rw [(hadd.trans (if_pos (Or.inl k1)))] at hrs
    subst hrs
    generalize (s.find d n).getD 0 = x at hfi
    generalize (s.find d n).isSome = y at hfi
    clear hm hc hl hc0 hc1
    go_enter Tryz.func91, Tryz.ntmps91
    go_wp2_with fail
    refine (hfi _ H.out).mono ?_
    clear hfi
    rintro e w1 ⟨rfl, rfl⟩
    go_wp2_with fail
    refine (hnm _).mono ?_
    clear hnm
    rintro e w2 ⟨rfl, rfl⟩
    go_wp2_with fail
    go_ret
    exact ⟨rfl, H.out, Mod.refl _ _⟩
  by_cases k2 : 2147483647 < d
  · skip
    rw [show s.add d n i = rs from hrs.symm]
    rw [(hadd.trans (if_pos (Or.inr (Or.inl k2))))] at hrs
    subst hrs
    generalize (s.find d n).getD 0 = x at hfi
    generalize (s.find d n).isSome = y at hfi
    clear hm hc hl hc0 hc1
    go_enter Tryz.func91, Tryz.ntmps91
    go_wp2_with fail
    refine (hfi _ H.out).mono ?_
    clear hfi
    rintro e w1 ⟨rfl, rfl⟩
    go_wp2_with fail
    refine (hnm _).mono ?_
    clear hnm
    rintro e w2 ⟨rfl, rfl⟩
    go_wp2_with fail
    go_ret
    exact ⟨rfl, H.out, Mod.refl _ _⟩
  by_cases k3 : i < 1
  · skip
    rw [show s.add d n i = rs from hrs.symm]
    rw [(hadd.trans (if_pos (Or.inr (Or.inr (Or.inl k3)))))] at hrs
    subst hrs
    generalize (s.find d n).getD 0 = x at hfi
    generalize (s.find d n).isSome = y at hfi
    clear hm hc hl hc0 hc1
    go_enter Tryz.func91, Tryz.ntmps91
    go_wp2_with fail
    refine (hfi _ H.out).mono ?_
    clear hfi
    rintro e w1 ⟨rfl, rfl⟩
    go_wp2_with fail
    refine (hnm _).mono ?_
    clear hnm
    rintro e w2 ⟨rfl, rfl⟩
    go_wp2_with fail
    go_ret
    exact ⟨rfl, H.out, Mod.refl _ _⟩
  by_cases k4 : 2147483647 < i
  · skip
    rw [show s.add d n i = rs from hrs.symm]
    rw [(hadd.trans (if_pos (Or.inr (Or.inr (Or.inr k4)))))] at hrs
    subst hrs
    generalize (s.find d n).getD 0 = x at hfi
    generalize (s.find d n).isSome = y at hfi
    clear hm hc hl hc0 hc1
    go_enter Tryz.func91, Tryz.ntmps91
    go_wp2_with fail
    refine (hfi _ H.out).mono ?_
    clear hfi
    rintro e w1 ⟨rfl, rfl⟩
    go_wp2_with fail
    refine (hnm _).mono ?_
    clear hnm
    rintro e w2 ⟨rfl, rfl⟩
    go_wp2_with fail
    go_ret
    exact ⟨rfl, H.out, Mod.refl _ _⟩
  rw [if_neg (by omega)] at hadd
  cases hf : (s.find d n).isSome
  rotate_left 1
  · rw [hf] at hfi hadd
    rw [if_pos rfl] at hadd
    rw [show s.add d n i = rs from hrs.symm]
    rw [hadd] at hrs
    subst hrs
    generalize (s.find d n).getD 0 = x at hfi
    generalize (s.find d n).isSome = y at hfi
    clear hm hc hl hc0 hc1
    go_enter Tryz.func91, Tryz.ntmps91
    go_wp2_with fail
    refine (hfi _ H.out).mono ?_
    clear hfi
    rintro e w1 ⟨rfl, rfl⟩
    go_wp2_with fail
    refine (hnm _).mono ?_
    clear hnm
    rintro e w2 ⟨rfl, rfl⟩
    go_wp2_with fail
    go_ret
    exact ⟨rfl, H.out, Mod.refl _ _⟩
  rw [hf] at hfi hadd
  rw [if_neg (by simp)] at hadd
  by_cases k5 : 64 ≤ s.count d
  · rw [if_pos k5] at hadd
    generalize s.count d = u at hl k5
    rw [hadd]
    generalize (s.find d n).getD 0 = x at hfi
    clear hm hc hc0 hc1 hrs hadd
    go_enter Tryz.func91, Tryz.ntmps91
    go_wp2_with fail
    refine (hfi _ H.out).mono ?_
    clear hfi
    rintro e w1 ⟨rfl, rfl⟩
    go_wp2_with fail
    refine (hnm _).mono ?_
    clear hnm
    rintro e w2 ⟨rfl, rfl⟩
    go_wp2_with fail
    go_ret
    exact ⟨rfl, H.out, Mod.refl _ _⟩
  rw [if_neg k5] at hadd
  rw [hadd]
  obtain ⟨W1, hu1, hm1, hM1⟩ := MapAt.upd hm keyDir Tryz.underlying213 (d, n) i
  have hb1 : ¬ b = mb := fun e => n2 e.symm
  have e1 := hM1.at c1 hb1
  have hc2 := hc.mod hM1 (fun e => n1 e.symm)
  have hl2 := count_look hc2 keyInt Tryz.underlying195 (fun w => Tryz.zeroValue3 w) d
  have hw : IntKind.i64.wrap (s.count d + 1) = s.count d + 1 := by rw [IntKind.wrap_i64]; omega
  obtain ⟨W2, hu2, hc3, hM2⟩ := MapAt.upd hc2 keyInt Tryz.underlying195 d (s.count d + 1)
  have hm2 := hm1.mod hM2 n1
  have hP := Lib.hid (H.out.put c0 c1 ((hM1.mono fun k _ h => Or.inl h).trans' hM2 (fun k _ h => Or.inr h)) hm2 hc3)
  simp only [kV, iV] at hu1 hu2
  generalize (s.find d n).getD 0 = x at hfi
  generalize s.count d = u at *
  clear hm hc hrs hadd hm1 hc2 hc3 hm2 hM1 hM2 n1 n2 n3 hb1 hc0 hc1
  go_enter Tryz.func91, Tryz.ntmps91
  go_wp2_with fail
  refine (hfi _ H.out).mono ?_
  clear hfi
  rintro e w1 ⟨rfl, rfl⟩
  go_wp2_with fail
  refine (hnm _).mono ?_
  clear hnm
  rintro e w2 ⟨rfl, rfl⟩
  go_wp2_with fail
  go_ret
  exact ⟨rfl, hP.out.1, hP.out.2⟩
end Go.Proofs.YtmnkackkeppheaaGreat
/- package dir: the entries that are such, in order -/
namespace Esch
open Go Go.RowKit
/-- entries in memory -/
def EntsAt (S : Nat → Prop) (w : World) (a : Option Addr) (l : List Ent) : Prop :=
  0 < l.length → ∃ b off, a = some ⟨b, off, none⟩ ∧ S b ∧ b < w.heap.size ∧ ∀ i, i < l.length → w.cell? ⟨b, off + i * 3, none⟩ = some (.int .i64 (l.getD i default).1.1) ∧ w.cell? ⟨b, off + i * 3 + 1, none⟩ = some (.string (bs (l.getD i default).1.2)) ∧ w.cell? ⟨b, off + i * 3 + 2, none⟩ = some (.int .i64 (l.getD i default).2)
theorem EntsAt.nil (S : Nat → Prop) (w : World) (a : Option Addr) : EntsAt S w a [] := fun h => absurd h (by simp)
theorem EntsAt.mod {S F : Nat → Prop} {w w' : World} {a : Option Addr} {l : List Ent} (h : EntsAt S w a l) (hM : Mod F w w') (hS : ∀ k, S k → k < w.heap.size → ¬ F k) : EntsAt S w' a l := fun h0 => by
  obtain ⟨b, off, e, hb, hl, hc⟩ := h h0
  refine ⟨b, off, e, hb, Nat.lt_of_lt_of_le hl hM.size, fun i hi => ?_⟩
  obtain ⟨h1, h2, h3⟩ := hc i hi
  exact ⟨hM.at h1 (hS b hb hl), hM.at h2 (hS b hb hl), hM.at h3 (hS b hb hl)⟩
theorem EntsAt.below {S : Nat → Prop} {w w' : World} {a : Option Addr} {l : List Ent} (h : EntsAt S w a l) (hB : Below w.heap.size w w') : EntsAt S w' a l := h.mod (F := none') (Mod.of_below hB) fun _ _ _ => id
end Esch
namespace Go.Proofs.YtmnkackkeppheaaGreat
open Go.RowKit Esch Go.Shelf Go.Sort

theorem Tryz.infoEnt : (Tryz.prog.info? 106).map (fun i => (i.zero, i.size, i.bytes)) = some (some (.agg #[.int .i64 0, .string ⟨#[]⟩, .int .i64 0]), 3, 32) := by kernel_rfl
theorem src_ent {P : Program} {W : World} (tx e' : TypeId) (hk : P.underlying tx = some (.slice e')) (b : Nat) (p : Ent) (t : TypeId) (hb : W.heap[b]? = some (.cells (entC p).toArray t)) (c : Nat) : Src P 3 tx (.slice (some ⟨b, 0, none⟩) 1 c) 1 (entC p) W := by
  refine Src.ofSlice W hk _ 1 c (entC p) rfl (fun j u hu => ?_) (fun u hu => ?_)
  · rw [addr_add, Nat.zero_add]
    simp [World.cell?, hb, hu]
  · simp only [entC, List.mem_cons, List.not_mem_nil, or_false] at hu
    rcases hu with rfl | rfl | rfl <;> rfl
theorem flat_get : ∀ (l : List Ent) (j : Nat), j < l.length * 3 → (l.flatMap entC)[j]? = some ((entC (l.toArray[j / 3]!))[j % 3]!)
  | [], j, h => by simp at h
  | a :: l, j, h => by
    rw [List.flatMap_cons]
    rcases Nat.lt_or_ge j 3 with hj | hj
    · rw [List.getElem?_append_left (by simpa [entC] using hj)]
      have : j = 0 ∨ j = 1 ∨ j = 2 := by omega
      rcases this with rfl | rfl | rfl <;> simp [entC]
    · rw [List.getElem?_append_right (by simpa [entC] using hj)]
      have e : j - (entC a).length = j - 3 := rfl
      rw [e, flat_get l (j - 3) (by simp only [List.length_cons] at h; omega)]
      have h1 : j / 3 = (j - 3) / 3 + 1 := by omega
      have h2 : j % 3 = (j - 3) % 3 := by omega
      rw [h1, h2]
      have h3 : (j - 3) / 3 < l.length := by simp only [List.length_cons] at h; omega
      congr 3
      rw [getElem!_pos l.toArray _ (by simpa using h3), getElem!_pos (a :: l).toArray _ (by simpa using h3)]
      simp
theorem mod_sort (w : World) (blk off m : Nat) (dk : Array Ent) (os : Array Obj) : Mod (· = blk) w (sortWorldK entC 3 w blk off m dk os) := by
  refine ⟨rfl, rfl, rfl, size_sortWorldK_c _ _ _ _ _ _ _ _, fun k hk hne => ?_⟩
  show ((w.heap.modify blk _) ++ os)[k]? = _
  rw [Array.getElem?_append_left (by simpa using hk), Array.getElem?_modify, if_neg (fun e => hne e.symm)]
theorem holds_ents {S : Nat → Prop} {w : World} {blk off cap : Nat} {l : List Ent} (h : GRowAt w S 3 l.length cap (some ⟨blk, off, none⟩) (l.flatMap entC)) (hl : 0 < l.length) : HoldsK entC 3 w blk off l.toArray ∧ S blk ∧ blk < w.heap.size := by
  have hle := h.le
  obtain ⟨b, o, e, hb, hlt, h1, h2⟩ := h.at' (by omega)
  cases e
  refine ⟨fun j hj => ?_, hb, hlt⟩
  rw [size_flatK, List.size_toArray] at hj
  refine ⟨?_, (h2 j (by omega)).2⟩
  rw [h1 j hj, flat_get l j hj, get_flatK _ _ _ _ (by simpa using hj)]
  rfl
theorem ents_holds {w : World} {blk off : Nat} {S : Nat → Prop} {d : Array Ent} (h : HoldsK entC 3 w blk off d) (hS : S blk) (hlt : blk < w.heap.size) : EntsAt S w (some ⟨blk, off, none⟩) d.toList := by
  intro h0
  refine ⟨blk, off, rfl, hS, hlt, fun i hi => ?_⟩
  rw [Array.length_toList] at hi
  have hg : d.toList.getD i default = d[i]! := by rw [List.getD_eq_getElem?_getD, Array.getElem?_toList, getElem!_pos d i hi, Array.getElem?_eq_getElem hi]; rfl
  rw [hg]
  have hh : ∀ c, c < 3 → w.cell? ⟨blk, off + (i * 3 + c), none⟩ = some ((entC d[i]!)[c]!) := fun c hc => by
    have := (h (i * 3 + c) (by rw [size_flatK]; omega)).1
    rw [get_flatK _ _ _ _ (by omega), show (i * 3 + c) / 3 = i by omega, show (i * 3 + c) % 3 = c by omega] at this
    exact this
  exact ⟨hh 0 (by omega), by have := hh 1 (by omega); rwa [← Nat.add_assoc] at this, by have := hh 2 (by omega); rwa [← Nat.add_assoc] at this⟩
theorem sorted_ents {l : List Ent} {d' : Array Ent} (hp : Sort.PermIn 0 l.toArray.size l.toArray d') (hs : Sort.SortedIn (ltOf cmpE) 0 l.toArray.size d') (hn : (l.map (·.1)).Nodup) : d'.toList.Perm l ∧ d'.toList.Pairwise (fun x y => entLt x y = true) := by
  obtain ⟨h1, -, h3⟩ := hp
  have h4 : d'.toList.Perm l := by
    have h5 : d'.toList.length = l.length := by simpa using h1
    simpa [List.take_of_length_le (Nat.le_of_eq h5)] using h3
  refine ⟨h4, sorted_strict ?_ ((h4.map (·.1)).nodup_iff.2 hn)⟩
  rw [List.pairwise_iff_getElem]
  intro i j hi hj hij
  rw [Array.length_toList] at hi hj
  have := hs i j (Nat.zero_le _) hij (by omega)
  rw [getElem!_pos d' i hi, getElem!_pos d' j hj, cmpE_lt] at this
  simpa using this
/-- a closure that tells of an entry whether it is such -/
def Such (w : World) (g : Nat) (lb : Array Value) (p : Ent → Bool) : Prop :=
  ∀ W e, Below w.heap.size w W → Calls Tryz.prog g (#[.agg (entC e).toArray] ++ lb) W fun r W' => r = .returned (.bool (p e)) ∧ Below W.heap.size W W'
def SomePost (w : World) (m : List Ent) (p : Ent → Bool) (e : Ending) (w' : World) : Prop :=
  ∃ a c l, e = .returned (.slice a l.length c) ∧ SortedOf m p l ∧ EntsAt (From w.heap.size) w' a l ∧ CapN l.length c ∧ Below w.heap.size w w'
def SomeRel (w : World) (mb : Nat) (m : List Ent) (p : Ent → Bool) (g : Nat) (v : Value) (wr : World) : Prop :=
  ∃ (seen left : List Ent) (ao : Option Addr) (cap : Nat), g = left.length ∧ Ranges wr mb w.heap.size kV iV m left ∧ (seen ++ left).Perm m ∧ v = .slice ao (seen.filter p).length cap ∧
    GRowAt wr (fun k => w.heap.size < k) 3 (seen.filter p).length cap ao ((seen.filter p).flatMap entC) ∧ Below w.heap.size w wr
set_option maxRecDepth 100000 in
set_option maxHeartbeats 4000000 in
theorem dirSome_any (w : World) (b : Nat) (S : Nat → Prop) (s : DirS) (h : DirAt w b S s) (g : Nat) (lb : Array Value) (p : Ent → Bool) (hl : s.m.length ≤ 100000)
    (eg : ∀ args w, (callFunc g args).run Tryz.prog w = .ok (.enter g args) w) (hp : Such w g lb p) :
    Calls Tryz.prog 78 #[.pointer (some ⟨b, 0, none⟩), .func (.func g) #[] lb] w (SomePost w s.m p) := by
  obtain ⟨sb, lt, mb, cb, c0, c1, ⟨es, ck, hm⟩, hc, sm, sc, n1, n2, n3⟩ := h
  obtain ⟨i0, hi, hz0, hz1, hz2⟩ := info_parts Tryz.infoEnt
  have hml := block_lt hm.block
  obtain ⟨m, hmm⟩ : ∃ m, m = s.m := ⟨_, rfl⟩
  rw [← hmm] at hm hl ⊢
  have hnd := Lib.hid hm.apart
  have Hl := Lib.hid hl
  have HP := Lib.hid hp
  clear hc c1 hmm hl hp
  go_enter Tryz.func78, Tryz.ntmps78
  go_wp2_with (at_range; refine wpList_range_map rfl _ _ rfl _ _ Tryz.underlying213 rfl hm ?_; intro w2 hR2 e2)
  go_frame
  have hB2 : Below w.heap.size w w2 := by rw [e2]; exact (Below.refl _ w).alloc (Nat.le_refl _) _
  clear e2 hm
  go_loopg [5] m.length (fun g sv wr => SomeRel w mb m p g sv wr)
  case atStart => exact ⟨[], m, none, 0, rfl, hR2, List.Perm.refl _, rfl, GRowAt.nil _ _ _ _, hB2⟩
  case round =>
    clear hR2 hB2
    obtain ⟨seen, left, ao, cap, rfl, hR, hperm, rfl, hG, hB⟩ := hrel
    have Hperm := Lib.hid hperm
    have HG := Lib.hid hG
    clear hperm hG
    go_wp2_with (at_next; refine wpList_next_map rfl _ rfl rfl hR ?_ ?_)
    · intro hl0
      have HL := Lib.hid hl0
      clear hl0
      have hp0 := Hperm.out
      rw [HL.out, List.append_nil] at hp0
      have hpf := hp0.filter p
      have hnf : ((seen.filter p).map (·.1)).Nodup := by
        have h1 := (hp0.map (·.1)).nodup_iff.2 hnd.out
        exact h1.sublist (List.filter_sublist.map _)
      have hlen : (seen.filter p).length ≤ 100000 := by
        have h1 := List.length_filter_le p seen
        have h2 := hp0.length_eq
        have h3 := Hl.out
        omega
      have Hpf := Lib.hid hpf
      have Hnf := Lib.hid hnf
      clear hp0 hpf hnf
      generalize seen.filter p = l at *
      by_cases h0 : l.length = 0
      · obtain rfl : l = [] := List.length_eq_zero_iff.1 h0
        have hso : Calls Tryz.prog 114 #[.slice ao 0 cap, .func (.func 115) #[] #[]] wr _ := AnyF.slices_SortFunc_none { Tryz.laysSF with } ao cap _ wr
        have hcp : CapN 0 cap := ⟨HG.out.le, HG.out.max⟩
        clear hlen h0
        go_wp2_with fail
        refine hso.mono ?_
        rintro e W6 ⟨rfl, rfl⟩
        go_wp2_with fail
        go_ret
        exact ⟨ao, cap, [], rfl, ⟨Hpf.out, List.Pairwise.nil⟩, EntsAt.nil _ _ _, hcp, hB⟩
      · have hle := HG.out.le
        obtain ⟨blk, off, rfl, -⟩ := HG.out.at' (by omega)
        obtain ⟨hH, hS, hlt⟩ := holds_ents HG.out (by omega)
        have eg : ∀ args w, (callFunc 115 args).run Tryz.prog w = .ok (.enter 115 args) w := enters_of Tryz.func115 (by kernel_rfl) rfl
        have hswo : Sort.SWO (ltOf cmpE) := by rw [show ltOf cmpE = entLt from funext fun x => funext fun y => cmpE_lt x y]; exact entLt_swo
        have hso : Calls Tryz.prog 114 #[.slice (some ⟨blk, off, none⟩) l.toArray.size cap, .func (.func 115) #[] #[]] wr _ :=
          AnyQ.slices_SortFunc Tryz.laysSF 3 Tryz.isAgg106 Tryz.sizeOf106 entC (fun _ => rfl) (fun x v hv => by
            simp only [entC, List.mem_cons, List.not_mem_nil, or_false] at hv
            rcases hv with rfl | rfl | rfl <;> rfl) cmpE hswo 115 #[] blk off cap l.toArray wr eg (cmpLays blk off l.toArray.size wr) hH hlt (by simp; omega)
        simp only [List.size_toArray] at hso
        have HH := Lib.hid hH
        have HS := Lib.hid hS
        have hcp : CapN l.length cap := ⟨HG.out.le, HG.out.max⟩
        clear hH hS eg hswo hle HG
        go_wp2_with fail
        refine hso.mono ?_
        clear hso
        rintro e W6 ⟨rfl, d', n', os, hp', hs', rfl⟩
        have hse := Lib.hid (sorted_ents (l := l) (by simpa using hp') (by simpa using hs') Hnf.out)
        have hdl : d'.toList.length = l.length := hse.out.1.length_eq
        have hM6 := Lib.hid (mod_sort wr blk off n' d' os)
        have hH6 := Lib.hid (holdsK_sortWorldK_c entC 3 wr blk off l.toArray d' n' os HH.out hlt (by simpa using hp'.1))
        have hl6 := lt_sortWorldK entC 3 wr blk off n' d' os hlt
        generalize sortWorldK entC 3 wr blk off n' d' os = W6 at hM6 hH6 hl6 ⊢
        clear hp' hs'
        go_wp2_with fail
        go_ret
        refine ⟨some ⟨blk, off, none⟩, cap, d'.toList, by rw [hdl]; rfl, ⟨hse.out.1.trans Hpf.out, hse.out.2⟩, ents_holds hH6.out (Nat.le_of_lt HS.out) hl6, by rw [hdl]; exact hcp, hB.trans (hM6.out.below_at hB.size (fun k hk e => by have := HS.out; omega))⟩
    · intro pre kd kn ino post w3 hl hR3 hg3 hs3 hen
      have hB3 : Below w.heap.size w w3 := hB.grown hg3 hB.size (fun k e => by cases e; exact Nat.le_refl _)
      have hz3 := hB3.size
      have hG3 : GRowAt w3 (fun k => w.heap.size < k) 3 (seen.filter p).length cap ao ((seen.filter p).flatMap entC) := by
        refine HG.out.mod (F := (· = w.heap.size)) ⟨hg3.os, hg3.tape, hg3.output, hg3.size, fun k hk hne => hg3.block k hk (fun e => hne (by cases e; rfl))⟩ (fun k hk _ e => by omega)
      have hpn : (seen ++ [((kd, kn), ino)] ++ (pre ++ post)).Perm m := by
        refine List.Perm.trans ?_ Hperm.out
        rw [hl, List.append_assoc]
        exact List.Perm.append_left seen (by simpa using (List.perm_middle (a := ((kd, kn), ino)) (l₁ := pre) (l₂ := post)).symm)
      have HL := Lib.hid hl
      have Hpn := Lib.hid hpn
      have HG3 := Lib.hid hG3
      have HB3 := Lib.hid hB3
      have HR3 := Lib.hid hR3
      simp only [kV, iV] at hen ⊢
      clear hl hg3 hR hB hpn hG3 hR3 hB3 HG Hperm hs3
      go_wp2_with fail
      obtain ⟨W5, hW5⟩ : ∃ W5, W5 = (w3.alloc (.cells #[.int .i64 kd, .string (bs kn)] 221)).alloc (.cells #[.int .i64 kd, .string (bs kn), .int .i64 ino] 106) := ⟨_, rfl⟩
      have e0 : W5.cell? ⟨w3.heap.size + 1, 0, none⟩ = some (.int .i64 kd) := by rw [hW5]; go_simp
      have e1 : W5.cell? ⟨w3.heap.size + 1, 1, none⟩ = some (.string (bs kn)) := by rw [hW5]; go_simp
      have e2 : W5.cell? ⟨w3.heap.size + 1, 2, none⟩ = some (.int .i64 ino) := by rw [hW5]; go_simp
      have hB35 : Below w3.heap.size w3 W5 := by rw [hW5]; exact belC (Below.refl _ _)
      have hB5 : Below w.heap.size w W5 := HB3.out.trans (hB35.mono HB3.out.size)
      rw [← hW5]
      clear hW5
      refine (HP.out W5 ((kd, kn), ino) hB5).mono ?_
      rintro e W6 ⟨rfl, hB6⟩
      have l5 : w3.heap.size + 1 < W5.heap.size := cell_lt e0
      have f0 := below_at hB6 e0 l5
      have f1 := below_at hB6 e1 l5
      have f2 := below_at hB6 e2 l5
      have hB36 : Below w3.heap.size w3 W6 := hB35.trans (hB6.mono (by omega))
      have HB6 := Lib.hid (HB3.out.trans (hB36.mono HB3.out.size))
      have HR6 := Lib.hid (HR3.out.of_blocks (hB36.block mb (HR3.out.lt).1) (hB36.block w.heap.size (HR3.out.lt).2))
      have HG6 := Lib.hid (HG3.out.mod (F := none') (Mod.of_below hB36) fun _ _ _ => id)
      clear hB35 hB5 hB6 hB36 e0 e1 e2 HG3 HR3 HB3 hen
      obtain ⟨pb, hpb⟩ : ∃ pb, pb = p ((kd, kn), ino) := ⟨_, rfl⟩
      rw [← hpb]
      have HPB := Lib.hid hpb
      clear hpb
      cases pb
      · go_wp2_with fail
        go_roundg (pre ++ post).length
        case measure => rw [HL.out]; simp
        case rel =>
          have hf : (seen ++ [((kd, kn), ino)]).filter p = seen.filter p := by rw [List.filter_append]; simp [← HPB.out]
          exact ⟨seen ++ [((kd, kn), ino)], pre ++ post, ao, cap, rfl, HR6.out, Hpn.out, by rw [hf], by rw [hf]; exact HG6.out, HB6.out⟩
      · have hlen : (seen.filter p).length ≤ 100000 := by
          have h1 := List.length_filter_le p seen
          have h2 := Hpn.out.length_eq
          have h3 := Hl.out
          simp only [List.length_append, List.length_cons] at h2
          omega
        go_wp2_with (at_builtin; refine wpList_append_g (by rfl) (.tmp 30) (.tmp 32) 24 24 (by rfl) 106 i0 _ 32 Tryz.underlying24 hi hz0 hz1 hz2 (by rfl) (by rfl) (HG6.out.mod (F := none') (by exact modC (Mod.refl _ _)) (fun _ _ _ => id)) _ 1 (entC ((kd, kn), ino)) (by rfl) (src_ent _ _ Tryz.underlying24 W6.heap.size ((kd, kn), ino) 106 (heap_alloc_new _ _) _) (by omega) (by omega) ?_; intro a8 cap8 w8 hg8 hM8 hz8)
        have hs6 : w.heap.size < W6.heap.size := (HR6.out.lt).2
        have hB8 : Below w.heap.size w w8 := HB6.out.trans (((Below.refl _ W6).alloc (Nat.le_refl _) _).mono HB6.out.size |>.trans (hM8.below_at (by have := HB6.out.size; simp only [World.size_alloc]; omega) (fun k hk e => by have e : w.heap.size < k := e; omega)))
        have HR8 := Lib.hid (HR6.out.of_blocks (w' := w8) ((hM8.block mb (by have := (HR6.out.lt).1; simp only [World.size_alloc]; omega) (by have := hml; show ¬ _ < _; omega)).trans (alloc_old _ _ _ (HR6.out.lt).1)) ((hM8.block w.heap.size (by simp only [World.size_alloc]; omega) (by show ¬ _ < _; omega)).trans (alloc_old _ _ _ (HR6.out.lt).2)))
        have HG8 := Lib.hid (hg8.sub (T := fun k => w.heap.size < k) (fun k _ hk => by
          rcases hk with hk | hk
          · exact hk
          · show w.heap.size < k; rw [hk]; simp only [World.size_alloc]; omega))
        have HB8 := Lib.hid hB8
        clear hg8 hM8 hz8 hB8 HG6 HR6
        go_wp2_with fail
        go_roundg (pre ++ post).length
        case measure => rw [HL.out]; simp
        case rel =>
          have hf : (seen ++ [((kd, kn), ino)]).filter p = seen.filter p ++ [((kd, kn), ino)] := by rw [List.filter_append]; simp [← HPB.out]
          refine ⟨seen ++ [((kd, kn), ino)], pre ++ post, a8, cap8, rfl, HR8.out, Hpn.out, by rw [hf]; simp, ?_, HB8.out⟩
          rw [hf, List.flatMap_append, List.length_append]
          simpa using HG8.out
end Go.Proofs.YtmnkackkeppheaaGreat
/- package dir: All, List -/
namespace Go.Proofs.YtmnkackkeppheaaGreat
open Go.RowKit Esch Go.Shelf

theorem such_all (w : World) : Such w 79 #[] (fun _ => true) := fun W e _ => by
  obtain ⟨⟨d, n⟩, i⟩ := e
  simp only [entC, strV]
  show Calls Tryz.prog 79 #[_] W _
  go_enter Tryz.func79, Tryz.ntmps79
  go_wp2_with fail
  go_ret
  exact ⟨rfl, by exact belC (Below.refl _ _)⟩
theorem dirAll_any (w : World) (b : Nat) (S : Nat → Prop) (s : DirS) (h : DirAt w b S s) (hl : s.m.length ≤ 100000) :
    Calls Tryz.prog 53 #[.pointer (some ⟨b, 0, none⟩)] w (SomePost w s.m (fun _ => true)) := by
  have hs := dirSome_any w b S s h 79 #[] (fun _ => true) hl (enters_of Tryz.func79 (by kernel_rfl) rfl) (such_all w)
  go_enter Tryz.func53, Tryz.ntmps53
  go_wp2_with fail
  refine hs.mono ?_
  clear hs
  rintro e w1 ⟨a, c, l, rfl, h1, h2, h3, h4⟩
  go_wp2_with fail
  go_ret
  exact ⟨a, c, l, rfl, h1, h2, h3, h4⟩
end Go.Proofs.YtmnkackkeppheaaGreat
