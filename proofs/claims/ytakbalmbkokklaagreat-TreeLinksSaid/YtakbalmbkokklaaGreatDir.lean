/- package dir: New, Find, Count, Add, Drop -/
import Derived.Test.YtakbalmbkokklaaGreatDirCmp
namespace Esch
open Go Go.RowKit
def kV (k : DK) : Value := .agg #[.int .i64 k.1, .string (bs k.2)]
def iV (i : Int) : Value := .int .i64 i
theorem bs_beq (a b : Nm) : (bs a == bs b) = decide (a = b) := by
  show (a.toArray == b.toArray) = _
  by_cases h : a = b <;> simp [h]
section
variable {P : Program} {t : TypeId}
theorem check_str (ht : P.underlying t = some .string) (e : Bool) (k : ByteArray) (w : World) : ∀ n, (Instr.checkKey e (n + 1) t (.string k)).run P w = .ok () w := fun n => by
  simp [Instr.checkKey, run_underlying ht, Result.andThen]
theorem equal_str (ht : P.underlying t = some .string) (a b : Nm) (w : World) : ∀ n, (Op.equalIn (n + 1) t (.string (bs a)) (.string (bs b))).run P w = .ok (decide (a = b)) w := fun n => by
  simp only [Op.equalIn]
  rw [run_bind' _ _ _ _ (run_underlying ht w)]
  simp [bs_beq]
theorem isAgg_str (ht : P.underlying t = some .string) (w : World) : (isAgg t).run P w = .ok false w := by
  simp [isAgg, run_underlying ht, Result.andThen]
theorem part_str (ht : P.underlying t = some .string) (cs : Array Value) (o : Nat) (v : Value) (h : cs[o]? = some v) (w : World) : (part t cs o).run P w = .ok v w := by
  unfold part
  rw [run_bind' _ _ _ _ (isAgg_str ht w)]
  simp [h]
theorem keyOK_is {f g : Field} (ht : P.underlying t = some (.struct #[f, g])) (hn : f.name ≠ "_") (ho : f.offset = 0) (hf : P.underlying f.type = some (.int .i64)) (hn' : g.name ≠ "_") (ho' : g.offset = 1) (hg : P.underlying g.type = some .string) (hs : P.stoodInHeld t = false) : KeyOK P t kV := by
  refine keyOK_agg ht (fun a v => by cases v <;> simp [Instr.sameNow]) (fun a b w => ?_) (fun e k w => ?_) (fun k => ?_)
  · show (Op.equalIn (9998 + 1 + 1) t (kV a) (kV b)).run P w = _
    generalize 9998 = n
    unfold Op.equalIn
    rw [run_bind' _ _ _ _ (run_underlying ht w)]
    obtain ⟨a1, a2⟩ := a
    obtain ⟨b1, b2⟩ := b
    simp only [kV, program]
    have f1 := fun w => part_int hf (#[Value.int .i64 a1, Value.string (bs a2)] : Array Value) f.offset (.int .i64 a1) (by simp [ho]) w
    have f2 := fun w => part_int hf (#[Value.int .i64 b1, Value.string (bs b2)] : Array Value) f.offset (.int .i64 b1) (by simp [ho]) w
    have g1 := fun w => part_str hg (#[Value.int .i64 a1, Value.string (bs a2)] : Array Value) g.offset (.string (bs a2)) (by simp [ho']) w
    have g2 := fun w => part_str hg (#[Value.int .i64 b1, Value.string (bs b2)] : Array Value) g.offset (.string (bs b2)) (by simp [ho']) w
    have q1 := fun w => equal_int hf a1 b1 w n
    have q2 := fun w => equal_str hg a2 b2 w n
    by_cases h : a1 = b1
    · subst h
      by_cases h2 : a2 = b2
      · subst h2
        simp [Sem.run, f1, g1, q1, q2, hn, hn', Result.andThen, hs]
      · simp [Sem.run, f1, f2, g1, g2, q1, q2, hn, hn', Result.andThen, hs, h2]
    · simp [Sem.run, f1, f2, q1, hn, Result.andThen, hs, h]
  · show (Instr.checkKey e (9998 + 1 + 1) t (kV k)).run P w = _
    generalize 9998 = n
    unfold Instr.checkKey
    rw [run_bind' _ _ _ _ (run_underlying ht w)]
    obtain ⟨a1, a2⟩ := k
    simp [kV, part_int hf _ _ _ (show (#[Value.int .i64 a1, Value.string (bs a2)] : Array Value)[f.offset]? = some (.int .i64 a1) by simp [ho]), part_str hg _ _ _ (show (#[Value.int .i64 a1, Value.string (bs a2)] : Array Value)[g.offset]? = some (.string (bs a2)) by simp [ho']), check_int hf, check_str hg, hn, hn', Result.andThen]
  · show Instr.sameBits (9998 + 1 + 1) _ _ = true
    generalize 9998 = n
    obtain ⟨a1, a2⟩ := k
    simp [Instr.sameBits, kV]
    rw [bs_beq]; simp
end
/-- a map of S that holds the pairs of m, in one order or another of their making -/
def MpAt {K V : Type} (w : World) (mb : Nat) (κ : K → Value) (ν : V → Value) (m : List (K × V)) : Prop := ∃ es clock, MapAt w mb κ ν m es clock
theorem MpAt.lt {K V : Type} {w : World} {mb : Nat} {κ : K → Value} {ν : V → Value} {m : List (K × V)} (h : MpAt w mb κ ν m) : mb < w.heap.size := by obtain ⟨_, _, h⟩ := h; exact block_lt h.block
theorem MpAt.mod {K V : Type} {w w' : World} {F : Nat → Prop} {mb : Nat} {κ : K → Value} {ν : V → Value} {m : List (K × V)} (h : MpAt w mb κ ν m) (hM : Mod F w w') (hF : ¬ F mb) : MpAt w' mb κ ν m := by
  obtain ⟨es, c, h⟩ := h
  exact ⟨es, c, h.of_block (hM.block mb (block_lt h.block) hF)⟩
/-- names in directories -/
structure DirAt (w : World) (b : Nat) (S : Nat → Prop) (s : DirS) : Prop where
  sb : S b
  lt : ∀ k, S k → k < w.heap.size
  ex : ∃ mb cb, w.cell? ⟨b, 0, none⟩ = some (.map (some mb)) ∧ w.cell? ⟨b, 1, none⟩ = some (.map (some cb)) ∧ MpAt w mb kV iV s.m ∧ MpAt w cb iV iV s.c ∧ S mb ∧ S cb ∧ mb ≠ cb ∧ mb ≠ b ∧ cb ≠ b
theorem DirAt.mod {w w' : World} {b : Nat} {S F : Nat → Prop} {s : DirS} (h : DirAt w b S s) (hM : Mod F w w') (hF : ∀ k, S k → ¬ F k) : DirAt w' b S s := by
  obtain ⟨sb, lt, mb, cb, c0, c1, hm, hc, sm, sc, n1, n2, n3⟩ := h
  exact ⟨sb, fun k hk => Nat.lt_of_lt_of_le (lt k hk) hM.size, mb, cb, hM.at c0 (hF b sb), hM.at c1 (hF b sb), hm.mod hM (hF mb sm), hc.mod hM (hF cb sc), sm, sc, n1, n2, n3⟩
theorem DirAt.below' {w w' : World} {b : Nat} {S : Nat → Prop} {s : DirS} (h : DirAt w b S s) (hB : Below w.heap.size w w') : DirAt w' b S s := h.mod (F := none') (Mod.of_below hB) fun _ _ => id
end Esch
namespace Go.Proofs.YtakbalmbkokklaaGreat
open Go.RowKit Esch Go.Shelf

theorem keyDir : KeyOK Tryz.prog 131 kV := keyOK_is Tryz.underlying131 (by decide) rfl Tryz.underlying3 (by decide) rfl Tryz.underlying9 (by kernel_rfl)
theorem keyInt : KeyOK Tryz.prog 3 iV := keyOK_int Tryz.underlying3
set_option maxHeartbeats 1000000 in
theorem dirNew_any (w : World) : Calls Tryz.prog 36 #[] w fun e w' => ∃ b, e = .returned (.pointer (some ⟨b, 0, none⟩)) ∧ DirAt w' b (fun k => w.heap.size ≤ k ∧ k < w'.heap.size) ⟨[], []⟩ ∧ Below w.heap.size w w' := by
  have hmm := @run_makeMap Tryz.prog
  go_enter Tryz.func36, Tryz.ntmps36
  go_wp2_with fail
  go_ret
  refine ⟨w.heap.size + 2, rfl, ⟨⟨by omega, by simp⟩, fun k hk => hk.2, w.heap.size, w.heap.size + 1, by go_simp, by go_simp, ⟨#[], 0, ?_, rfl, List.nodup_nil, List.Pairwise.nil, fun e h => by simp at h⟩, ⟨#[], 0, ?_, rfl, List.nodup_nil, List.Pairwise.nil, fun e h => by simp at h⟩, ⟨Nat.le_refl _, by simp; omega⟩, ⟨by omega, by simp⟩, by omega, by omega, by omega⟩, by exact belC (Below.refl _ _)⟩
  · rw [alloc_old _ _ _ (by simp; omega), alloc_old _ _ _ (by simp), alloc_new]
  · rw [alloc_old _ _ _ (by simp)]
    have := alloc_new (w.alloc (.map #[] 0)) (.map #[] 0)
    rwa [World.size_alloc] at this
theorem dirFind_any (w : World) (b : Nat) (S : Nat → Prop) (s : DirS) (h : DirAt w b S s) (d : Int) (n : Nm) :
    Calls Tryz.prog 82 #[.pointer (some ⟨b, 0, none⟩), .int .i64 d, .string (bs n)] w fun e w' => e = .returned (.tuple #[.int .i64 ((s.find d n).getD 0), .bool (s.find d n).isSome]) ∧ w' = w := by
  obtain ⟨sb, lt, mb, cb, c0, c1, ⟨es, ck, hm⟩, hc, sm, sc, n1, n2, n3⟩ := h
  have hl := hm.look keyDir Tryz.underlying114 (z := .int .i64 0) (fun w => Tryz.zeroValue3 w) (d, n) true
  simp only [if_true, kV] at hl
  rw [show ((get s.m (d, n)).map iV).getD (Value.int .i64 0) = .int .i64 ((get s.m (d, n)).getD 0) by cases get s.m (d, n) <;> rfl] at hl
  unfold DirS.find
  generalize (get s.m (d, n)).getD 0 = x at hl ⊢
  generalize (get s.m (d, n)).isSome = y at hl ⊢
  clear hm
  go_enter Tryz.func82, Tryz.ntmps82
  go_wp2_with fail
  go_ret2
  exact ⟨rfl, rfl⟩
theorem dirCount_any (w : World) (b : Nat) (S : Nat → Prop) (s : DirS) (h : DirAt w b S s) (d : Int) :
    Calls Tryz.prog 47 #[.pointer (some ⟨b, 0, none⟩), .int .i64 d] w fun e w' => e = .returned (.int .i64 (s.count d)) ∧ w' = w := by
  obtain ⟨sb, lt, mb, cb, c0, c1, hm, ⟨es, ck, hc⟩, sm, sc, n1, n2, n3⟩ := h
  have hl := hc.look keyInt Tryz.underlying88 (z := .int .i64 0) (fun w => Tryz.zeroValue3 w) d false
  simp only [Bool.false_eq_true, if_false, iV] at hl
  rw [show ((get s.c d).map iV).getD (Value.int .i64 0) = .int .i64 (s.count d) by unfold DirS.count; cases get s.c d <;> rfl] at hl
  generalize s.count d = x at hl ⊢
  clear hc
  go_enter Tryz.func47, Tryz.ntmps47
  go_wp2_with fail
  go_ret
  exact ⟨rfl, rfl⟩
theorem dirFind_nil (w : World) (d : Int) (n : Nm) : Calls Tryz.prog 82 #[.pointer none, .int .i64 d, .string (bs n)] w fun e w' => e = .returned (.tuple #[.int .i64 0, .bool false]) ∧ w' = w := by
  go_enter Tryz.func82, Tryz.ntmps82
  go_wp2_with fail
  go_ret2
  exact ⟨rfl, rfl⟩
def DirPost (w : World) (b : Nat) (S : Nat → Prop) (r : Int × DirS) (e : Ending) (w' : World) : Prop := e = .returned (.int .i64 r.1) ∧ DirAt w' b S r.2 ∧ Mod S w w'
/-- a map of two is written -/
theorem _root_.Esch.DirAt.put {w W : World} {b mb cb : Nat} {S : Nat → Prop} {s : DirS} {m' : List Ent} {c' : List (Int × Int)} (h : DirAt w b S s) (c0 : w.cell? ⟨b, 0, none⟩ = some (.map (some mb))) (c1 : w.cell? ⟨b, 1, none⟩ = some (.map (some cb)))
    (hM : Mod (fun k => k = mb ∨ k = cb) w W) (hm : MpAt W mb kV iV m') (hc : MpAt W cb iV iV c') : DirAt W b S ⟨m', c'⟩ ∧ Mod S w W := by
  obtain ⟨sb, lt, mb', cb', d0, d1, -, -, sm, sc, n1, n2, n3⟩ := h
  obtain rfl : mb' = mb := by rw [d0] at c0; cases c0; rfl
  obtain rfl : cb' = cb := by rw [d1] at c1; cases c1; rfl
  have hb : ¬ (b = mb' ∨ b = cb') := fun h => h.elim (fun e => n2 e.symm) (fun e => n3 e.symm)
  exact ⟨⟨sb, fun k hk => Nat.lt_of_lt_of_le (lt k hk) hM.size, mb', cb', hM.at d0 hb, hM.at d1 hb, hm, hc, sm, sc, n1, n2, n3⟩, hM.mono fun k _ hk => by rcases hk with rfl | rfl <;> assumption⟩
theorem MapAt.upd {P : Program} {K V : Type} [DecidableEq K] {κ : K → Value} {ν : V → Value} {m : List (K × V)} {w : World} {b : Nat} {mt kt et : TypeId} (h : MpAt w b κ ν m) (hK : KeyOK P kt κ) (ht : P.underlying mt = some (.map kt et)) (k : K) (u : V) :
    ∃ W, (Instr.mapUpdate mt (.map (some b)) (κ k) (ν u)).run P w = .ok () W ∧ MpAt W b κ ν (Esch.set m k u) ∧ Mod (· = b) w W := by
  obtain ⟨es, c, h⟩ := h
  obtain ⟨es', c', h1, h2⟩ := h.update hK ht k u
  exact ⟨_, h1, ⟨_, _, h2⟩, (Mod.refl (· = b) w).putObj (fun _ => rfl) _⟩
theorem MapAt.dele {P : Program} {K V : Type} [DecidableEq K] {κ : K → Value} {ν : V → Value} {m : List (K × V)} {w : World} {b : Nat} {mt kt et : TypeId} (h : MpAt w b κ ν m) (hK : KeyOK P kt κ) (ht : P.underlying mt = some (.map kt et)) (k : K) (ts : Array TypeId) (rt : TypeId) (hts : ts[0]? = some mt) :
    ∃ W, (Builtin.delete_ ts rt #[.map (some b), κ k]).run P w = .ok (.tuple #[]) W ∧ MpAt W b κ ν (del m k) ∧ Mod (· = b) w W := by
  obtain ⟨es, c, h⟩ := h
  obtain ⟨es', h1, h2⟩ := h.delete hK ht k ts rt hts
  exact ⟨_, h1, ⟨_, _, h2⟩, (Mod.refl (· = b) w).putObj (fun _ => rfl) _⟩
theorem count_look {P : Program} {w : World} {cb : Nat} {s : DirS} {mt kt et : TypeId} (h : MpAt w cb iV iV s.c) (hK : KeyOK P kt iV) (ht : P.underlying mt = some (.map kt et)) (hz : ∀ w, (zeroValue et).run P w = .ok (.int .i64 0) w) (d : Int) :
    (Instr.lookup mt (.map (some cb)) (.int .i64 d) false).run P w = .ok (.int .i64 (s.count d)) w := by
  obtain ⟨es, c, h⟩ := h
  have hl := h.look hK ht hz d false
  simp only [Bool.false_eq_true, if_false] at hl
  rwa [show ((get s.c d).map iV).getD (Value.int .i64 0) = .int .i64 (s.count d) by unfold DirS.count; cases get s.c d <;> rfl] at hl
set_option maxRecDepth 100000 in
set_option maxHeartbeats 4000000 in
theorem dirAdd_any (w : World) (b : Nat) (S : Nat → Prop) (s : DirS) (h : DirAt w b S s) (d : Int) (n : Nm) (i : Int) (hc0 : 0 ≤ s.count d) (hc1 : s.count d ≤ 64) :
    Calls Tryz.prog 74 #[.pointer (some ⟨b, 0, none⟩), .int .i64 d, .string (bs n), .int .i64 i] w (DirPost w b S (s.add d n i)) := by
  have hfi := fun W hW => dirFind_any W b S s hW d n
  have hnm := fun W => name_any W n
  have H := Lib.hid h
  obtain ⟨sb, lt, mb, cb, c0, c1, hm, hc, sm, sc, n1, n2, n3⟩ := h
  have hl := count_look hc keyInt Tryz.underlying88 (fun w => Tryz.zeroValue3 w) d
  obtain ⟨rs, hrs⟩ : ∃ rs, rs = s.add d n i := ⟨_, rfl⟩
  cases hn : nameL n
  · rw [hn] at hnm
    have h11 : s.add d n i = (11, s) := by unfold DirS.add; rw [hn]; rfl
    rw [show s.add d n i = rs from hrs.symm]
    rw [h11] at hrs
    subst hrs
    generalize (s.find d n).getD 0 = x at hfi
    generalize (s.find d n).isSome = y at hfi
    clear hm hc hl hc0 hc1
    go_enter Tryz.func74, Tryz.ntmps74
    go_wp2_with fail
    refine (hfi _ H.out).mono ?_
    clear hfi
    rintro e w1 ⟨rfl, rfl⟩
    go_wp2_with fail
    refine (hnm _).mono ?_
    clear hnm
    rintro e w2 ⟨rfl, rfl⟩
    go_wp2_with fail
    go_ret
    exact ⟨rfl, H.out, Mod.refl _ _⟩
  rw [hn] at hnm
  have hadd : s.add d n i = if d < 1 ∨ 2147483647 < d ∨ i < 1 ∨ 2147483647 < i then (1, s) else if (s.find d n).isSome = true then (61, s) else if 64 ≤ s.count d then (67, s) else (0, ⟨set s.m (d, n) i, set s.c d (s.count d + 1)⟩) := by
    unfold DirS.add; rw [hn]; rfl
  by_cases k1 : d < 1
  · skip
    rw [show s.add d n i = rs from hrs.symm]
    rw [(hadd.trans (if_pos (Or.inl k1)))] at hrs
    subst hrs
    generalize (s.find d n).getD 0 = x at hfi
    generalize (s.find d n).isSome = y at hfi
    clear hm hc hl hc0 hc1
    go_enter Tryz.func74, Tryz.ntmps74
    go_wp2_with fail
    refine (hfi _ H.out).mono ?_
    clear hfi
    rintro e w1 ⟨rfl, rfl⟩
    go_wp2_with fail
    refine (hnm _).mono ?_
    clear hnm
    rintro e w2 ⟨rfl, rfl⟩
    go_wp2_with fail
    go_ret
    exact ⟨rfl, H.out, Mod.refl _ _⟩
  by_cases k2 : 2147483647 < d
  · skip
    rw [show s.add d n i = rs from hrs.symm]
    rw [(hadd.trans (if_pos (Or.inr (Or.inl k2))))] at hrs
    subst hrs
    generalize (s.find d n).getD 0 = x at hfi
    generalize (s.find d n).isSome = y at hfi
    clear hm hc hl hc0 hc1
    go_enter Tryz.func74, Tryz.ntmps74
    go_wp2_with fail
    refine (hfi _ H.out).mono ?_
    clear hfi
    rintro e w1 ⟨rfl, rfl⟩
    go_wp2_with fail
    refine (hnm _).mono ?_
    clear hnm
    rintro e w2 ⟨rfl, rfl⟩
    go_wp2_with fail
    go_ret
    exact ⟨rfl, H.out, Mod.refl _ _⟩
  by_cases k3 : i < 1
  · skip
    rw [show s.add d n i = rs from hrs.symm]
    rw [(hadd.trans (if_pos (Or.inr (Or.inr (Or.inl k3)))))] at hrs
    subst hrs
    generalize (s.find d n).getD 0 = x at hfi
    generalize (s.find d n).isSome = y at hfi
    clear hm hc hl hc0 hc1
    go_enter Tryz.func74, Tryz.ntmps74
    go_wp2_with fail
    refine (hfi _ H.out).mono ?_
    clear hfi
    rintro e w1 ⟨rfl, rfl⟩
    go_wp2_with fail
    refine (hnm _).mono ?_
    clear hnm
    rintro e w2 ⟨rfl, rfl⟩
    go_wp2_with fail
    go_ret
    exact ⟨rfl, H.out, Mod.refl _ _⟩
  by_cases k4 : 2147483647 < i
  · skip
    rw [show s.add d n i = rs from hrs.symm]
    rw [(hadd.trans (if_pos (Or.inr (Or.inr (Or.inr k4)))))] at hrs
    subst hrs
    generalize (s.find d n).getD 0 = x at hfi
    generalize (s.find d n).isSome = y at hfi
    clear hm hc hl hc0 hc1
    go_enter Tryz.func74, Tryz.ntmps74
    go_wp2_with fail
    refine (hfi _ H.out).mono ?_
    clear hfi
    rintro e w1 ⟨rfl, rfl⟩
    go_wp2_with fail
    refine (hnm _).mono ?_
    clear hnm
    rintro e w2 ⟨rfl, rfl⟩
    go_wp2_with fail
    go_ret
    exact ⟨rfl, H.out, Mod.refl _ _⟩
  rw [if_neg (by omega)] at hadd
  cases hf : (s.find d n).isSome
  rotate_left 1
  · rw [hf] at hfi hadd
    rw [if_pos rfl] at hadd
    rw [show s.add d n i = rs from hrs.symm]
    rw [hadd] at hrs
    subst hrs
    generalize (s.find d n).getD 0 = x at hfi
    generalize (s.find d n).isSome = y at hfi
    clear hm hc hl hc0 hc1
    go_enter Tryz.func74, Tryz.ntmps74
    go_wp2_with fail
    refine (hfi _ H.out).mono ?_
    clear hfi
    rintro e w1 ⟨rfl, rfl⟩
    go_wp2_with fail
    refine (hnm _).mono ?_
    clear hnm
    rintro e w2 ⟨rfl, rfl⟩
    go_wp2_with fail
    go_ret
    exact ⟨rfl, H.out, Mod.refl _ _⟩
  rw [hf] at hfi hadd
  rw [if_neg (by simp)] at hadd
  by_cases k5 : 64 ≤ s.count d
  · rw [if_pos k5] at hadd
    generalize s.count d = u at hl k5
    rw [hadd]
    generalize (s.find d n).getD 0 = x at hfi
    clear hm hc hc0 hc1 hrs hadd
    go_enter Tryz.func74, Tryz.ntmps74
    go_wp2_with fail
    refine (hfi _ H.out).mono ?_
    clear hfi
    rintro e w1 ⟨rfl, rfl⟩
    go_wp2_with fail
    refine (hnm _).mono ?_
    clear hnm
    rintro e w2 ⟨rfl, rfl⟩
    go_wp2_with fail
    go_ret
    exact ⟨rfl, H.out, Mod.refl _ _⟩
  rw [if_neg k5] at hadd
  rw [hadd]
  obtain ⟨W1, hu1, hm1, hM1⟩ := MapAt.upd hm keyDir Tryz.underlying114 (d, n) i
  have hb1 : ¬ b = mb := fun e => n2 e.symm
  have e1 := hM1.at c1 hb1
  have hc2 := hc.mod hM1 (fun e => n1 e.symm)
  have hl2 := count_look hc2 keyInt Tryz.underlying88 (fun w => Tryz.zeroValue3 w) d
  have hw : IntKind.i64.wrap (s.count d + 1) = s.count d + 1 := by rw [IntKind.wrap_i64]; omega
  obtain ⟨W2, hu2, hc3, hM2⟩ := MapAt.upd hc2 keyInt Tryz.underlying88 d (s.count d + 1)
  have hm2 := hm1.mod hM2 n1
  have hP := Lib.hid (H.out.put c0 c1 ((hM1.mono fun k _ h => Or.inl h).trans' hM2 (fun k _ h => Or.inr h)) hm2 hc3)
  simp only [kV, iV] at hu1 hu2
  generalize (s.find d n).getD 0 = x at hfi
  generalize s.count d = u at *
  clear hm hc hrs hadd hm1 hc2 hc3 hm2 hM1 hM2 n1 n2 n3 hb1 hc0 hc1
  go_enter Tryz.func74, Tryz.ntmps74
  go_wp2_with fail
  refine (hfi _ H.out).mono ?_
  clear hfi
  rintro e w1 ⟨rfl, rfl⟩
  go_wp2_with fail
  refine (hnm _).mono ?_
  clear hnm
  rintro e w2 ⟨rfl, rfl⟩
  go_wp2_with fail
  go_ret
  exact ⟨rfl, hP.out.1, hP.out.2⟩
set_option maxRecDepth 100000 in
set_option maxHeartbeats 4000000 in
theorem dirDrop_any (w : World) (b : Nat) (S : Nat → Prop) (s : DirS) (h : DirAt w b S s) (d : Int) (n : Nm) (hc0 : 0 ≤ s.count d) (hc1 : s.count d ≤ 64) :
    Calls Tryz.prog 73 #[.pointer (some ⟨b, 0, none⟩), .int .i64 d, .string (bs n)] w (DirPost w b S (s.drop d n)) := by
  have hfi := fun W hW => dirFind_any W b S s hW d n
  have H := Lib.hid h
  obtain ⟨sb, lt, mb, cb, c0, c1, hm, hc, sm, sc, n1, n2, n3⟩ := h
  cases hf : s.find d n with
  | none =>
    rw [hf] at hfi
    rw [show s.drop d n = (60, s) by unfold DirS.drop; rw [if_pos hf]]
    clear hm hc hc0 hc1 hf
    go_enter Tryz.func73, Tryz.ntmps73
    go_wp2_with fail
    refine (hfi _ H.out).mono ?_
    clear hfi
    rintro e w1 ⟨rfl, rfl⟩
    go_wp2_with fail
    go_ret
    exact ⟨rfl, H.out, Mod.refl _ _⟩
  | some i =>
    rw [hf] at hfi
    rw [show s.drop d n = (0, ⟨del s.m (d, n), set s.c d (s.count d - 1)⟩) by unfold DirS.drop; rw [if_neg (by rw [hf]; simp)]]
    obtain ⟨W1, hu1, hm1, hM1⟩ := MapAt.dele hm keyDir Tryz.underlying114 (d, n) #[114, 131] 0 rfl
    have hb1 : ¬ b = mb := fun e => n2 e.symm
    have e1 := hM1.at c1 hb1
    have hc2 := hc.mod hM1 (fun e => n1 e.symm)
    have hl2 := count_look hc2 keyInt Tryz.underlying88 (fun w => Tryz.zeroValue3 w) d
    have hw : IntKind.i64.wrap (s.count d - 1) = s.count d - 1 := by rw [IntKind.wrap_i64]; omega
    obtain ⟨W2, hu2, hc3, hM2⟩ := MapAt.upd hc2 keyInt Tryz.underlying88 d (s.count d - 1)
    have hm2 := hm1.mod hM2 n1
    have hP := Lib.hid (H.out.put c0 c1 ((hM1.mono fun k _ h => Or.inl h).trans' hM2 (fun k _ h => Or.inr h)) hm2 hc3)
    simp only [kV, iV] at hu1 hu2
    generalize s.count d = u at *
    clear hm hc hm1 hc2 hc3 hm2 hM1 hM2 n1 n2 n3 hb1 hc0 hc1 hf
    go_enter Tryz.func73, Tryz.ntmps73
    go_wp2_with fail
    refine (hfi _ H.out).mono ?_
    clear hfi
    rintro e w1 ⟨rfl, rfl⟩
    go_wp2_with fail
    go_ret
    exact ⟨rfl, hP.out.1, hP.out.2⟩
end Go.Proofs.YtakbalmbkokklaaGreat
