import Derived.Test.YtghdhhbpbmhooaaGreatPkBase
import Derived.Test.YtghdhhbpbmhooaaGreatGood
import Derived.Test.YtghdhhbpbmhooaaGreatSlices
/- the places behind which units have no page, and the least address above all: plain Lean; and keys of two numbers -/
namespace Esch
open Go

theorem keyOK_s2 {P : Program} {t : TypeId} {f g : Field} (ht : P.underlying t = some (.struct #[f, g])) (hn : f.name ≠ "_") (ho : f.offset = 0) (hf : P.underlying f.type = some (.int .i64)) (hn' : g.name ≠ "_") (ho' : g.offset = 1) (hg : P.underlying g.type = some (.int .i64)) (hs : P.stoodInHeld t = false) : KeyOK P t κs2 := by
  refine keyOK_agg ht (fun a v => by cases v <;> simp [Instr.sameNow]) (fun a b w => ?_) (fun e k w => ?_) (fun k => ?_)
  · show (Op.equalIn (9998 + 1 + 1) t (κs2 a) (κs2 b)).run P w = _
    generalize 9998 = n
    unfold Op.equalIn
    rw [run_bind' _ _ _ _ (run_underlying ht w)]
    obtain ⟨a1, a2⟩ := a
    obtain ⟨b1, b2⟩ := b
    simp only [κs2, program]
    have f1 := fun w => part_int hf (#[Value.int .i64 a1, Value.int .i64 a2] : Array Value) f.offset (.int .i64 a1) (by simp [ho]) w
    have f2 := fun w => part_int hf (#[Value.int .i64 b1, Value.int .i64 b2] : Array Value) f.offset (.int .i64 b1) (by simp [ho]) w
    have g1 := fun w => part_int hg (#[Value.int .i64 a1, Value.int .i64 a2] : Array Value) g.offset (.int .i64 a2) (by simp [ho']) w
    have g2 := fun w => part_int hg (#[Value.int .i64 b1, Value.int .i64 b2] : Array Value) g.offset (.int .i64 b2) (by simp [ho']) w
    have q1 := fun w => equal_int hf a1 b1 w n
    have q2 := fun w => equal_int hg a2 b2 w n
    by_cases h : a1 = b1
    · subst h
      by_cases h2 : a2 = b2
      · subst h2
        simp [Sem.run, f1, g1, q1, q2, hn, hn', Result.andThen, hs]
      · simp [Sem.run, f1, f2, g1, g2, q1, q2, hn, hn', Result.andThen, hs, h2]
    · simp [Sem.run, f1, f2, q1, hn, Result.andThen, hs, h]
  · show (Instr.checkKey e (9998 + 1 + 1) t (κs2 k)).run P w = _
    generalize 9998 = n
    unfold Instr.checkKey
    rw [run_bind' _ _ _ _ (run_underlying ht w)]
    obtain ⟨a1, a2⟩ := k
    simp [κs2, part_int hf _ _ _ (show (#[Value.int .i64 a1, Value.int .i64 a2] : Array Value)[f.offset]? = some (.int .i64 a1) by simp [ho]), part_int hg _ _ _ (show (#[Value.int .i64 a1, Value.int .i64 a2] : Array Value)[g.offset]? = some (.int .i64 a2) by simp [ho']), check_int hf, check_int hg, hn, hn', Result.andThen]
  · show Instr.sameBits (9998 + 1 + 1) _ _ = true
    generalize 9998 = n
    obtain ⟨a1, a2⟩ := k
    simp [Instr.sameBits, κs2]

/-- how many pages a unit counts for -/
def clampP (n : Int) : Int := if 4096 < (if n < 0 then 0 else n) then 4096 else (if n < 0 then 0 else n)
theorem clampP_le (n : Int) : 0 ≤ clampP n ∧ clampP n ≤ 4096 := by unfold clampP; by_cases h : n < 0 <;> by_cases h2 : 4096 < n <;> simp [h, h2] <;> omega
/-- the places of a chain's units -/
def spotC (t : List (Int × Int)) (i : Nat) (c : List Int) : List (Int × Int) := c.filterMap fun u => (get t u).map fun n => ((i : Int), clampP n)
/-- the places of all units of the first k chains -/
def spotsP (t : List (Int × Int)) (ls : List (List Int)) : Nat → List (Int × Int)
  | 0 => []
  | k + 1 => spotsP t ls k ++ spotC t k (ls.getD k [])
def spotV (n : Nat) (x : Int × Int) : Int := if 0 < x.2 then (x.2 - 1) * n + x.1 + 1 else 0
def maxV (n : Nat) (l : List (Int × Int)) : Int := l.foldl (fun a x => max a (spotV n x)) 0
def tailP (p : Proj) (t : List (Int × Int)) : Int := if goodB p then maxV p.chains.length (spotsP t p.chains p.chains.length) else 0

theorem foldMax_ge {n : Nat} : ∀ (l : List (Int × Int)) (a : Int), a ≤ l.foldl (fun a x => max a (spotV n x)) a ∧ ∀ x ∈ l, spotV n x ≤ l.foldl (fun a x => max a (spotV n x)) a
  | [], a => ⟨Int.le_refl _, by simp⟩
  | y :: l, a => by
    simp only [List.foldl_cons, List.mem_cons, forall_eq_or_imp]
    obtain ⟨h1, h2⟩ := foldMax_ge l (max a (spotV n y))
    exact ⟨by omega, by omega, h2⟩
theorem foldMax_is {n : Nat} : ∀ (l : List (Int × Int)) (a : Int), l.foldl (fun a x => max a (spotV n x)) a = a ∨ ∃ x ∈ l, l.foldl (fun a x => max a (spotV n x)) a = spotV n x
  | [], a => Or.inl rfl
  | y :: l, a => by
    simp only [List.foldl_cons, List.mem_cons]
    rcases foldMax_is l (max a (spotV n y)) with h | ⟨x, hx, h⟩
    · rcases Int.le_total a (spotV n y) with h1 | h1
      · exact Or.inr ⟨y, Or.inl rfl, by rw [h]; omega⟩
      · exact Or.inl (by rw [h]; omega)
    · exact Or.inr ⟨x, Or.inr hx, h⟩
/-- the greatest is told by what it is -/
theorem maxV_eq {n : Nat} {l : List (Int × Int)} {T : Int} (h1 : ∀ x ∈ l, spotV n x ≤ T) (h0 : 0 ≤ T) (h2 : T = 0 ∨ ∃ x ∈ l, T = spotV n x) : maxV n l = T := by
  obtain ⟨g1, g2⟩ := foldMax_ge (n := n) l 0
  unfold maxV
  rcases foldMax_is (n := n) l 0 with h | ⟨x, hx, h⟩
  · rcases h2 with h2 | ⟨y, hy, h2⟩
    · omega
    · have := g2 y hy; omega
  · have := h1 x hx
    rcases h2 with h2 | ⟨y, hy, h2⟩
    · omega
    · have := g2 y hy; omega
theorem spot_mem {t : List (Int × Int)} {ls : List (List Int)} {k : Nat} {x : Int × Int} (h : x ∈ spotsP t ls k) : 0 ≤ x.1 ∧ x.1 < k ∧ 0 ≤ x.2 ∧ x.2 ≤ 4096 := by
  induction k with
  | zero => simp [spotsP] at h
  | succ k ih =>
    simp only [spotsP, List.mem_append] at h
    rcases h with h | h
    · have := ih h; omega
    · simp only [spotC, List.mem_filterMap, Option.map_eq_some_iff] at h
      obtain ⟨u, -, n, -, rfl⟩ := h
      have := clampP_le n
      simp only
      omega
theorem spotC_snoc (t : List (Int × Int)) (i : Nat) (c : List Int) (u : Int) : spotC t i (c ++ [u]) = spotC t i c ++ (match get t u with | none => [] | some n => [((i : Int), clampP n)]) := by
  unfold spotC
  rw [List.filterMap_append]
  congr 1
  cases h : get t u <;> simp [h]
theorem spotsP_len (t : List (Int × Int)) (ls : List (List Int)) (h : ∀ i, i < ls.length → (ls.getD i []).length ≤ 50) : ∀ k, k ≤ ls.length → (spotsP t ls k).length ≤ k * 50
  | 0, _ => by simp [spotsP]
  | k + 1, hk => by
    simp only [spotsP, List.length_append, spotC]
    have := spotsP_len t ls h k (by omega)
    have := h k (by omega)
    have := List.length_filterMap_le (fun u => (get t u).map fun n => ((k : Int), clampP n)) (ls.getD k [])
    omega
end Esch
/- the least address above all that are there: place.spots, place.Tail -/
namespace Go.Proofs.YtghdhhbpbmhooaaGreat
open Go.RowKit Esch

/-- block mb is a map whose keys are the places of L -/
def MapSp (w : World) (mb : Nat) (L : List (Int × Int)) : Prop := ∃ (m : List ((Int × Int) × Int)) (es : Array MapEntry) (clock : Nat), MapAt w mb κs2 κint m es clock ∧ (∀ x, x ∈ L ↔ (get m x).isSome = true) ∧ ∀ x, 0 ≤ (get m x).getD 0 ∧ (get m x).getD 0 ≤ L.length
theorem MapSp.mod {F : Nat → Prop} {w w' : World} {mb : Nat} {L : List (Int × Int)} (h : MapSp w mb L) (hM : Mod F w w') (hb : ¬ F mb) : MapSp w' mb L := by
  obtain ⟨m, es, clock, h1, h2⟩ := h
  exact ⟨m, es, clock, h1.of_block (hM.block _ (block_lt h1.block) hb), h2⟩
theorem keyPlace : KeyOK Tryz.prog 127 κs2 := keyOK_s2 Tryz.underlying127 (by decide) rfl Tryz.underlying3 (by decide) rfl Tryz.underlying3 (by kernel_rfl)
theorem keyInt : KeyOK Tryz.prog 3 κint := keyOK_int Tryz.underlying3
theorem sp_step {w : World} {mb : Nat} {L : List (Int × Int)} (h : MapSp w mb L) (x y : Int) : ∃ (c : Int) (st : Nat) (w2 w3 : World), 0 ≤ c ∧ c ≤ L.length ∧ MapSp w3 mb (L ++ [(x, y)]) ∧ Mod (· = mb) w w3 ∧
    (Instr.lookup 149 (.map (some mb)) (.agg #[.int .i64 x, .int .i64 y]) false).run Tryz.prog w = .ok (.int .i64 c) w ∧
    (Instr.lookup 149 (.map (some mb)) (.agg #[.int .i64 x, .int .i64 y]) false).run Tryz.prog w2 = .ok (.int .i64 c) w2 ∧
    (Instr.mapEntry 149 (.map (some mb)) (.agg #[.int .i64 x, .int .i64 y])).run Tryz.prog w = .ok (.tuple #[.int .i64 c, .int .i64 st]) w2 ∧
    (Instr.entryStore 149 (.map (some mb)) (.int .i64 st) (.int .i64 (c + 1))).run Tryz.prog w2 = .ok () w3 := by
  obtain ⟨m, es, clock, hm, hg, hn⟩ := h
  obtain ⟨st, es1, clock1, h1, h2, h3⟩ := hm.entry keyPlace Tryz.underlying149 (0 : Int) zeroInt (x, y)
  obtain ⟨es2, h4, h5⟩ := h3 (putObj w mb (.map es1 clock1)) ((get m (x, y)).getD 0 + 1) h2.block
  have l1 := hm.look keyPlace Tryz.underlying149 zeroInt (x, y) false
  have l2 := h2.look keyPlace Tryz.underlying149 zeroInt (x, y) false
  rw [get_set, if_pos rfl] at l2
  have hle := hn (x, y)
  have hv : ((get m (x, y)).map κint).getD (.int .i64 0) = .int .i64 ((get m (x, y)).getD 0) := by cases get m (x, y) <;> rfl
  simp only [Bool.false_eq_true, if_false, Option.map_some, Option.getD_some, hv] at l1 l2
  refine ⟨(get m (x, y)).getD 0, st, _, _, hle.1, hle.2, ⟨_, _, _, h5, fun v => ?_, fun v => ?_⟩, ((Mod.refl (· = mb) w).putObj (fun _ => rfl) _).putObj (fun _ => rfl) _, l1, l2, h1, h4⟩
  · rw [get_set]
    by_cases e : (x, y) = v
    · subst e; simp
    · rw [if_neg e, ← hg]
      simp only [List.mem_append, List.mem_singleton]
      exact ⟨fun h => h.resolve_right (fun e' => e e'.symm), Or.inl⟩
  · rw [get_set, List.length_append, List.length_singleton]
    by_cases e : (x, y) = v
    · subst e; rw [if_pos rfl, Option.getD_some]; omega
    · rw [if_neg e]; have := hn v; omega

def SpotPost (w : World) (L : List (Int × Int)) (e : Ending) (w' : World) : Prop := ∃ mb, e = .returned (.map (some mb)) ∧ MapSp w' mb L ∧ w.heap.size ≤ mb ∧ Below w.heap.size w w'
def SpotRel (w : World) (mb : Nat) (t : List (Int × Int)) (ls : List (List Int)) (g : Nat) (s16 : Value) (wr : World) : Prop :=
  ∃ k : Nat, g = ls.length - k ∧ k ≤ ls.length ∧ s16 = .int .i64 k ∧ MapSp wr mb (spotsP t ls k) ∧ Below w.heap.size w wr
def SpotRel2 (w : World) (mb : Nat) (t : List (Int × Int)) (k : Nat) (pre : List (Int × Int)) (l : List Int) (g : Nat) (s23 : Value) (wr : World) : Prop :=
  ∃ j : Nat, g = l.length - j ∧ j ≤ l.length ∧ s23 = .int .i64 j ∧ MapSp wr mb (pre ++ spotC t k (l.take j)) ∧ Below w.heap.size w wr
theorem spotC_len (t : List (Int × Int)) (k : Nat) (l : List Int) : (spotC t k l).length ≤ l.length := List.length_filterMap_le _ _

set_option maxRecDepth 100000 in
set_option maxHeartbeats 1000000 in
theorem spots_any (S : Nat → Prop) (w : World) (e : Int) (a : Option Addr) (c : Nat) (ls : List (List Int)) (hs : Small ls) (h : ListsAt S w a ls) (tb : Nat) (t : List (Int × Int)) (es : Array MapEntry) (clock : Nat) (ht : MapAt w tb κint κint t es clock) :
    Calls Tryz.prog 79 #[.agg #[.int .i64 e, .slice a ls.length c], .map (some tb)] w (SpotPost w (spotsP t ls ls.length)) := by
  have hmm := @run_makeMap Tryz.prog
  have Hs := Lib.hid hs
  have hn := hs.1
  have HT := Lib.hid ht
  have htl := block_lt ht.block
  clear hs ht
  obtain ⟨hm, h⟩ := h
  have H := Lib.hid h
  clear h
  go_enter Tryz.func79, Tryz.ntmps79
  go_wp2_with fail
  have hM1 : Below w.heap.size w ((w.alloc (.cells #[.int .i64 e, .slice a ls.length c] 24)).alloc (.map #[] 0)) := ((Below.refl _ _).alloc (Nat.le_refl _) _).alloc (by simp) _
  have hC1 : MapSp ((w.alloc (.cells #[.int .i64 e, .slice a ls.length c] 24)).alloc (.map #[] 0)) (w.heap.size + 1) [] := ⟨[], #[], 0, ⟨by have := alloc_new (w.alloc (.cells #[.int .i64 e, .slice a ls.length c] 24)) (.map #[] 0); rwa [World.size_alloc] at this, by simp, by simp, by simp, by simp⟩, fun u => by simp [Esch.get], fun u => by simp [Esch.get]⟩
  obtain ⟨mb, hmb⟩ : ∃ mb, mb = w.heap.size + 1 := ⟨_, rfl⟩
  rw [← hmb] at hC1 ⊢
  have hmbw : w.heap.size ≤ mb := by omega
  clear hmb
  go_loopg [16] ls.length (fun g s16 wr => SpotRel w mb t ls g s16 wr)
  case atStart => exact ⟨0, rfl, Nat.zero_le _, rfl, hC1, hM1⟩
  case round =>
    clear hC1 hM1
    obtain ⟨k, rfl, hk, rfl, hC, hB⟩ := hrel
    by_cases hlt : k < ls.length
    · obtain ⟨b, off, rfl, -, hb, hc⟩ := H.out (by omega)
      obtain ⟨ia, ic, hc1, hi, -⟩ := hc k hlt
      clear hc
      have hl50 := Hs.out.2 k hlt
      have hfl := spotsP_len t ls Hs.out.2 k (by omega)
      have hfl2 : (spotsP t ls k).length ≤ 2500 := by omega
      have HP := Lib.hid (show spotsP t ls (k + 1) = spotsP t ls k ++ spotC t k (ls.getD k []) from rfl)
      replace hc1 := below_at hB hc1 hb
      obtain ⟨hi0, hi1⟩ := hi
      have HI := Lib.hid hi1
      clear hi1 hfl
      have hk1 : (0 : Int) ≤ k := by omega
      have hk2 : (k : Int) < ls.length := by omega
      generalize ls.getD k [] = l at *
      generalize spotsP t ls k = pre at *
      go_wp2_with fail
      obtain ⟨wo, rfl⟩ : ∃ wo : World, wo = wr := ⟨_, rfl⟩
      go_loopg [23] l.length (fun g s23 wr => SpotRel2 w mb t k pre l g s23 wr)
      case atStart => exact ⟨0, rfl, Nat.zero_le _, rfl, by simpa [spotC] using hC, hB⟩
      case round =>
        clear hC hB hc1
        obtain ⟨j, rfl, hj, rfl, hC, hB⟩ := hrel
        by_cases hlt2 : j < l.length
        · obtain ⟨b2, off2, rfl, -, hb2, hcj⟩ := HI.out (by omega)
          have hx := below_at hB (hcj j hlt2) hb2
          clear hcj
          have HX := Lib.hid (take_getD hlt2)
          have hlen : (pre ++ spotC t k (l.take j)).length ≤ 100000 := by
            have := spotC_len t k (l.take j)
            simp only [List.length_append, List.length_take] at this ⊢; omega
          generalize l.getD j 0 = x at *
          have hj1 : (0 : Int) ≤ j := by omega
          have hj2 : (j : Int) < l.length := by omega
          have hlk := (HT.out.of_block (hB.block tb htl)).look keyInt Tryz.underlying91 zeroInt x true
          simp only [if_true] at hlk
          have HQ := Lib.hid (spotC_snoc t k (l.take j) x)
          cases hg : get t x with
          | none =>
            rw [hg] at hlk
            simp only [Option.map_none, Option.getD_none, Option.isSome_none] at hlk
            have Hg := Lib.hid hg
            clear hg hlen
            unfold κint at hlk
            go_wp2_with fail
            go_roundg (l.length - (j + 1))
            case measure => omega
            case rel =>
              refine ⟨j + 1, rfl, by omega, by go_num, ?_, hB⟩
              rw [HX.out, HQ.out, Hg.out, List.append_nil]
              exact hC
          | some n =>
            rw [hg] at hlk
            simp only [Option.map_some, Option.getD_some, Option.isSome_some] at hlk
            have Hg := Lib.hid hg
            clear hg
            unfold κint at hlk
            obtain ⟨cc, st, w2, w3, hc0, hcl, hC3, hM3, q1, q2, q3, q4⟩ := sp_step (hC.mod (F := none') ((Mod.refl _ wr).drew) id) k (if 4096 < (if n < 0 then 0 else n) then 4096 else (if n < 0 then 0 else n))
            have hcb : cc ≤ 100000 := by omega
            have hB3 := hB.drew.trans (hM3.below_at hB.drew.size fun i hi e => by omega)
            clear hcl hM3 hC hlen
            go_wp2_with fail
            go_region
            all_goals go_wp2_with fail
            all_goals go_roundg (l.length - (j + 1))
            all_goals first
              | (show _ < _; omega)
              | exact ⟨j + 1, rfl, by omega, by go_num, by rw [HX.out, HQ.out, Hg.out, ← List.append_assoc]; exact hC3, hB3⟩
        · have hj3 : j = l.length := by omega
          go_wp2_with fail
          go_roundg (ls.length - (k + 1))
          case measure => omega
          case rel => exact ⟨k + 1, rfl, by omega, by go_num, by rw [HP.out]; rwa [List.take_of_length_le (by omega)] at hC, hB⟩
    · have hk3 : k = ls.length := by omega
      subst hk3
      go_wp2_with fail
      go_ret
      exact ⟨mb, rfl, hC, hmbw, hB⟩

def TailRel5 (w : World) (v : Value) (mb r : Nat) (n : Nat) (m : List ((Int × Int) × Int)) (g : Nat) (s5 : Value) (wr : World) : Prop :=
  ∃ (left : List ((Int × Int) × Int)) (T : Int), g = left.length ∧ s5 = .int .i64 T ∧ Ranges wr mb r κs2 κint m left ∧ 0 ≤ T ∧ T ≤ 1000000 ∧ (∀ p ∈ m, p ∈ left ∨ spotV n p.1 ≤ T) ∧ (∀ p ∈ left, p ∈ m) ∧ (T = 0 ∨ ∃ p ∈ m, T = spotV n p.1) ∧ Below w.heap.size w wr ∧ wr.cell? ⟨w.heap.size, 1, none⟩ = some v
theorem wrap64 {x : Int} (h0 : -9223372036854775808 ≤ x) (h1 : x ≤ 9223372036854775807) : IntKind.i64.wrap x = x := by
  rw [IntKind.wrap_i64]; omega
theorem mul_le4 {y n : Int} (hy : 1 ≤ y) (hy2 : y ≤ 4096) (hn : 1 ≤ n) (hn2 : n ≤ 4) : 0 ≤ (y - 1) * n ∧ (y - 1) * n ≤ 16380 := by
  have h1 : 0 ≤ (y - 1) * n := Int.mul_nonneg (by omega) (by omega)
  have h2 : (y - 1) * n ≤ 4095 * 4 := Int.mul_le_mul (by omega) hn2 (by omega) (by omega)
  exact ⟨h1, by omega⟩
set_option maxRecDepth 100000 in
set_option maxHeartbeats 1000000 in
theorem plTail_any (S : Nat → Prop) (w : World) (p : Proj) (a : Option Addr) (c : Nat) (hs : Small p.chains) (h : ListsAt S w a p.chains) (tb : Nat) (t : List (Int × Int)) (es : Array MapEntry) (clock : Nat) (ht : MapAt w tb κint κint t es clock) :
    Calls Tryz.prog 49 #[.agg #[.int .i64 p.epoch, .slice a p.chains.length c], .map (some tb)] w fun e w' => e = .returned (.int .i64 (tailP p t)) ∧ Below w.heap.size w w' := by
  obtain ⟨e, ls⟩ := p
  simp only at *
  have hgd := good_any S (w.alloc (.cells #[.int .i64 e, .slice a ls.length c] 24)) e a c ls (h.mod ((Mod.refl none' _).alloc _) (fun _ _ _ => id))
  have Hs := Lib.hid hs
  have HL := Lib.hid h
  have HT := Lib.hid ht
  have htl := block_lt ht.block
  have hn := h.1
  clear h hs ht
  go_enter Tryz.func49, Tryz.ntmps49
  go_wp2_with fail
  refine hgd.mono ?_
  clear hgd
  rintro e1 w1 ⟨rfl, hB1⟩
  have hBb : Below w.heap.size w w1 := ((Below.refl w.heap.size w).alloc (Nat.le_refl _) _).trans (hB1.mono (by simp))
  have p0 : w1.cell? ⟨w.heap.size, 0, none⟩ = some (.int .i64 e) := below_at hB1 (by go_simp) (by simp)
  have p1 : w1.cell? ⟨w.heap.size, 1, none⟩ = some (.slice a ls.length c) := below_at hB1 (by go_simp) (by simp)
  have hl1 := HL.out.mod (F := none') (Mod.of_below hBb) (fun _ _ _ => id)
  have ht1 := HT.out.of_block (hBb.block tb htl)
  cases hg : goodB ⟨e, ls⟩
  · have Hg := Lib.hid hg
    clear hg hl1 ht1
    go_wp2_with fail
    go_ret
    rw [show tailP ⟨e, ls⟩ t = 0 by unfold tailP; rw [Hg.out]; rfl]
    exact ⟨rfl, hBb⟩
  · have hgg : (Proj.mk e ls).good := of_decide_eq_true hg
    obtain ⟨-, -, g3, g4, -⟩ := hgg
    have g3' : (1 : Int) ≤ ls.length := by simp only at g3; omega
    have g4' : (ls.length : Int) ≤ 4 := by simp only at g4; omega
    have Hg := Lib.hid hg
    clear hg g3 g4 hB1
    have hsp := spots_any S w1 e a c ls Hs.out hl1 tb t es clock ht1
    clear hl1 ht1
    go_wp2_with fail
    refine hsp.mono ?_
    clear hsp
    rintro e2 w2 ⟨mb, rfl, hC, hmb, hB2⟩
    have hz1 := hBb.size
    have hz2 := hB2.size
    have hwl := cell_lt p1
    replace p0 := below_at hB2 p0 hwl
    replace p1 := below_at hB2 p1 hwl
    have hB := hBb.trans (hB2.mono hz1)
    obtain ⟨m, es2, clock2, hm1, hk1, -⟩ := hC
    have Hk := Lib.hid hk1
    have Hap := Lib.hid hm1.apart
    clear hk1 hB2 hBb
    go_wp2_with (at_range; refine wpList_range_map rfl _ _ rfl _ _ Tryz.underlying149 rfl hm1 ?_; intro w3 hR3 e3)
    go_frame
    have hB3 : Below w.heap.size w w3 := by rw [e3]; exact hB.alloc hB.size _
    have q1 : w3.cell? ⟨w.heap.size, 1, none⟩ = some (.slice a ls.length c) := by rw [e3]; exact (cell_alloc_lt w2 _ _ _ (by omega)).trans p1
    have hwz : w.heap.size < w2.heap.size := by omega
    clear e3 hm1 hB p0 p1
    obtain ⟨r, hr⟩ : ∃ r, r = w2.heap.size := ⟨_, rfl⟩
    rw [← hr] at hR3 ⊢
    have hrw : w.heap.size < r := by omega
    clear hr
    have hmbw : w.heap.size < mb := by omega
    go_loopg [5] m.length (fun g s5 wr => TailRel5 w (.slice a ls.length c) mb r ls.length m g s5 wr)
    case atStart => exact ⟨m, 0, rfl, rfl, hR3, by omega, by omega, fun p hp => Or.inl hp, fun p hp => hp, Or.inl rfl, hB3, q1⟩
    case round =>
      clear hR3
      obtain ⟨left, T, rfl, rfl, hR, hT0, hT1, hok, hsub, hre, hB, q2⟩ := hrel
      have Hsub := Lib.hid hsub
      have Hok := Lib.hid hok
      have Hre := Lib.hid hre
      clear hsub hok hre q1 hB3
      go_wp2_with (at_next; refine wpList_next_map rfl _ rfl rfl hR ?_ ?_)
      · intro hl0
        have HL0 := Lib.hid hl0
        clear hl0
        go_wp2_with fail
        go_ret
        refine ⟨?_, hB⟩
        show Ending.returned (.int .i64 T) = _
        unfold tailP
        rw [show goodB ⟨e, ls⟩ = true from Hg.out, if_pos rfl]
        simp only
        have h1 : ∀ x ∈ spotsP t ls ls.length, spotV ls.length x ≤ T := fun x hx => by
          obtain ⟨v, hv⟩ := Option.isSome_iff_exists.1 ((Hk.out x).1 hx)
          exact (Hok.out _ ((mem_iff_get Hap.out x v).2 hv)).resolve_left (by rw [HL0.out]; simp)
        have h2 : T = 0 ∨ ∃ x ∈ spotsP t ls ls.length, T = spotV ls.length x := Hre.out.imp id fun ⟨p, hp, e⟩ => ⟨p.1, (Hk.out p.1).2 (by rw [(mem_iff_get Hap.out p.1 p.2).1 hp]; rfl), e⟩
        rw [maxV_eq h1 hT0 h2]
      · intro pre x y n post w4 hl hR4 hg4 hs4 hen
        have HL1 := Lib.hid hl
        have hB4 : Below w.heap.size w w4 := hB.grown hg4 hB.size (fun k e => by cases e; omega)
        have hz4 := hB4.size
        obtain ⟨-, -, -, -, hblk⟩ := hg4
        have hum : (x, y) ∈ spotsP t ls ls.length := (Hk.out (x, y)).2 (by rw [(mem_iff_get Hap.out (x, y) n).1 (Hsub.out _ (by rw [HL1.out]; simp))]; rfl)
        have q3 : w4.cell? ⟨w.heap.size, 1, none⟩ = some (.slice a ls.length c) := by
          have hlq := cell_lt q2
          exact (World.cell?_of_block (hblk w.heap.size hlq (by intro e; have := Option.some.inj e; omega))).trans q2
        have hwz4 := cell_lt q3
        obtain ⟨x0, x1, y0, y1⟩ := spot_mem hum
        simp only at x0 x1 y0 y1
        have hmem : ((x, y), n) ∈ m := Hsub.out _ (by rw [HL1.out]; simp)
        have Hmem := Lib.hid hmem
        have Hsv := Lib.hid (show spotV ls.length (x, y) = if 0 < y then (y - 1) * (ls.length : Int) + x + 1 else 0 from rfl)
        have hlt4 := hR4.lt
        clear hl hblk hs4 hR hum hmem hB q2
        simp only [κs2, κint] at hen ⊢
        by_cases hy : 0 < y
        · obtain ⟨m0, m1⟩ := mul_le4 (y := y) (n := (ls.length : Int)) (by omega) y1 g3' g4'
          have hw1 : IntKind.i64.wrap ((y - 1) * (ls.length : Int)) = (y - 1) * (ls.length : Int) := wrap64 (by omega) (by omega)
          by_cases hTV : T < (y - 1) * (ls.length : Int) + x + 1
          · go_wp2_with fail
            go_roundg (pre ++ post).length
            case measure => rw [HL1.out]; simp
            case rel =>
              have hsv : spotV ls.length (x, y) ≤ ((y - 1) * (ls.length : Int) + x + 1) ∧ T ≤ ((y - 1) * (ls.length : Int) + x + 1) ∧ ((y - 1) * (ls.length : Int) + x + 1) ≤ 1000000 ∧ (((y - 1) * (ls.length : Int) + x + 1) = T ∨ ((y - 1) * (ls.length : Int) + x + 1) = spotV ls.length (x, y)) := by
                rw [Hsv.out]
                first | rw [if_pos hy] | rw [if_neg (by omega)]
                omega
              refine ⟨pre ++ post, ((y - 1) * (ls.length : Int) + x + 1), rfl, by go_simp, hR4.of_blocks (by simp [hlt4.1]) (by simp [hlt4.2]), by omega, hsv.2.2.1, fun p hp => ?_, fun p hp => Hsub.out p (by rw [HL1.out]; simp only [List.mem_append, List.mem_cons] at hp ⊢; rcases hp with h | h <;> simp [h]), ?_, by exact belC hB4, by go_simp⟩
              · rcases Hok.out p hp with h | h
                · rw [HL1.out] at h
                  simp only [List.mem_append, List.mem_cons] at h ⊢
                  rcases h with h | rfl | h
                  · exact Or.inl (Or.inl h)
                  · exact Or.inr hsv.1
                  · exact Or.inl (Or.inr h)
                · exact Or.inr (by omega)
              · rcases hsv.2.2.2 with h | h
                · rw [h]; exact Hre.out
                · exact Or.inr ⟨_, Hmem.out, h⟩
          · go_wp2_with fail
            go_roundg (pre ++ post).length
            case measure => rw [HL1.out]; simp
            case rel =>
              have hsv : spotV ls.length (x, y) ≤ T ∧ T ≤ T ∧ T ≤ 1000000 ∧ (T = T ∨ T = spotV ls.length (x, y)) := by
                rw [Hsv.out]
                first | rw [if_pos hy] | rw [if_neg (by omega)]
                omega
              refine ⟨pre ++ post, T, rfl, by go_simp, hR4.of_blocks (by simp [hlt4.1]) (by simp [hlt4.2]), by omega, hsv.2.2.1, fun p hp => ?_, fun p hp => Hsub.out p (by rw [HL1.out]; simp only [List.mem_append, List.mem_cons] at hp ⊢; rcases hp with h | h <;> simp [h]), ?_, by exact belC hB4, by go_simp⟩
              · rcases Hok.out p hp with h | h
                · rw [HL1.out] at h
                  simp only [List.mem_append, List.mem_cons] at h ⊢
                  rcases h with h | rfl | h
                  · exact Or.inl (Or.inl h)
                  · exact Or.inr hsv.1
                  · exact Or.inl (Or.inr h)
                · exact Or.inr (by omega)
              · rcases hsv.2.2.2 with h | h
                · rw [h]; exact Hre.out
                · exact Or.inr ⟨_, Hmem.out, h⟩
        · go_wp2_with fail
          go_roundg (pre ++ post).length
          case measure => rw [HL1.out]; simp
          case rel =>
            have hsv : spotV ls.length (x, y) ≤ T ∧ T ≤ T ∧ T ≤ 1000000 ∧ (T = T ∨ T = spotV ls.length (x, y)) := by
              rw [Hsv.out]
              first | rw [if_pos hy] | rw [if_neg (by omega)]
              omega
            refine ⟨pre ++ post, T, rfl, by go_simp, hR4.of_blocks (by simp [hlt4.1]) (by simp [hlt4.2]), by omega, hsv.2.2.1, fun p hp => ?_, fun p hp => Hsub.out p (by rw [HL1.out]; simp only [List.mem_append, List.mem_cons] at hp ⊢; rcases hp with h | h <;> simp [h]), ?_, by exact belC hB4, by go_simp⟩
            · rcases Hok.out p hp with h | h
              · rw [HL1.out] at h
                simp only [List.mem_append, List.mem_cons] at h ⊢
                rcases h with h | rfl | h
                · exact Or.inl (Or.inl h)
                · exact Or.inr hsv.1
                · exact Or.inl (Or.inr h)
              · exact Or.inr (by omega)
            · rcases hsv.2.2.2 with h | h
              · rw [h]; exact Hre.out
              · exact Or.inr ⟨_, Hmem.out, h⟩
end Go.Proofs.YtghdhhbpbmhooaaGreat
/- whether two projections are alike: slices.Equal, slices.EqualFunc, reform.same -/
namespace Go.Proofs.YtghdhhbpbmhooaaGreat
open Go.RowKit Esch

set_option maxHeartbeats 1000000 in
theorem equal_any (S : Nat → Prop) (w : World) (a a' : Option Addr) (l l' : List Int) (c c' : Nat) (h : IntsAt S w a l) (h' : IntsAt S w a' l') :
    Calls Tryz.prog 84 #[.slice a l.length c, .slice a' l'.length c'] w (Drawn w (.bool (decide (l = l')))) := by
  obtain ⟨hm, h⟩ := h
  obtain ⟨hm', h'⟩ := h'
  have H := Lib.hid h
  have H' := Lib.hid h'
  clear h h'
  by_cases hne : l.length = l'.length
  · generalize hn : l.length = n at *
    have Hn := Lib.hid hn
    have Hne := Lib.hid hne
    rw [← hne]
    clear hn hne hm'
    go_enter Tryz.func84, Tryz.ntmps84
    go_wp2_with fail
    go_loopg [13] n (fun g s13 wr => IntsRel w l l' g s13 wr)
    case atStart => exact ⟨0, by rw [Hn.out]; rfl, Nat.zero_le _, rfl, fun j hj => absurd hj (by omega), 0, rfl⟩
    case round =>
      obtain ⟨k, hg, hk, rfl, hj, nd, rfl⟩ := hrel
      rw [Hn.out] at hg hk
      have Hg := Lib.hid hg
      have Hj := Lib.hid hj
      clear hg hj
      by_cases hlt : k < n
      · obtain ⟨b, off, rfl, -, hb, hc⟩ := H.out (by omega)
        obtain ⟨b', off', rfl, -, hb', hc'⟩ := H'.out (by have := Hne.out; omega)
        have hc1 := hc k hlt
        have hc1' := hc' k (by rw [← Hne.out]; exact hlt)
        clear hc hc'
        have hk1 : (0 : Int) ≤ k := by omega
        have hk2 : (k : Int) < n := by omega
        generalize hx : l.getD k 0 = x at hc1
        generalize hx' : l'.getD k 0 = x' at hc1'
        have Hx := Lib.hid hx
        have Hx' := Lib.hid hx'
        clear hx hx'
        by_cases hxx : x = x'
        · have he : (x != x') = false := by simp [hxx]
          have Hxx := Lib.hid hxx
          clear hxx
          go_wp2_with fail
          go_quiet (fail)
          go_wp2_with fail
          go_roundg (n - (k + 1))
          case measure => have := Hg.out; omega
          case rel =>
            refine ⟨k + 1, by rw [Hn.out], by rw [Hn.out]; omega, by go_num, fun j hj => ?_, _, rfl⟩
            by_cases e : j = k
            · subst e; rw [Hx.out, Hx'.out]; exact Hxx.out
            · exact Hj.out j (by omega)
        · have he : (x != x') = true := by simp [hxx]
          have Hxx := Lib.hid hxx
          clear hxx
          go_wp2_with fail
          go_quiet (fail)
          go_wp2_with fail
          go_ret
          have : l ≠ l' := ne_of_getD (k := k) (by rw [Hx.out, Hx'.out]; exact Hxx.out)
          exact ⟨by simp [this], _, World.drewN_drewN _ _ _⟩
      · have hk3 : k = n := by omega
        go_wp2_with fail
        go_ret
        have : l = l' := eq_of_getD (by rw [Hn.out, Hne.out]) (by rw [Hn.out, ← hk3]; exact Hj.out)
        exact ⟨by simp [this], _, rfl⟩
  · have he : ((l.length : Int) != (l'.length : Int)) = true := by simp; omega
    have Hne := Lib.hid hne
    clear hne
    go_enter Tryz.func84, Tryz.ntmps84
    go_wp2_with fail
    go_ret
    have : l ≠ l' := fun e => Hne.out (by rw [e])
    exact ⟨by simp [this], 0, rfl⟩

set_option maxHeartbeats 2000000 in
theorem equalFunc_any (S : Nat → Prop) (w : World) (a a' : Option Addr) (c c' : Nat) (l l' : List (List Int)) (h : ListsAt S w a l) (h' : ListsAt S w a' l') :
    Calls Tryz.prog 83 #[.slice a l.length c, .slice a' l'.length c', .func (.func 84) #[] #[]] w (Drawn w (.bool (decide (l = l')))) := by
  obtain ⟨hm, h⟩ := h
  obtain ⟨hm', h'⟩ := h'
  have H := Lib.hid h
  have H' := Lib.hid h'
  clear h h'
  by_cases hne : l.length = l'.length
  · generalize hn : l.length = n at *
    have Hn := Lib.hid hn
    have Hne := Lib.hid hne
    rw [← hne]
    clear hn hne hm'
    go_enter Tryz.func83, Tryz.ntmps83
    go_wp2_with fail
    go_loopg [17] n (fun g s17 wr => ProjRel w l l' g s17 wr)
    case atStart => exact ⟨0, by rw [Hn.out]; rfl, Nat.zero_le _, rfl, fun j hj => absurd hj (by omega), 0, rfl⟩
    case round =>
      obtain ⟨k, hg, hk, rfl, hj, nd, rfl⟩ := hrel
      rw [Hn.out] at hg hk
      have Hg := Lib.hid hg
      have Hj := Lib.hid hj
      clear hg hj
      by_cases hlt : k < n
      · obtain ⟨b, off, rfl, -, hb, hc⟩ := H.out (by omega)
        obtain ⟨b', off', rfl, -, hb', hc'⟩ := H'.out (by have := Hne.out; omega)
        obtain ⟨ia, ic, hc1, hi1, -⟩ := hc k hlt
        obtain ⟨ia', ic', hc1', hi1', -⟩ := hc' k (by rw [← Hne.out]; exact hlt)
        clear hc hc'
        have hk1 : (0 : Int) ≤ k := by omega
        have hk2 : (k : Int) < n := by omega
        generalize hx : l.getD k [] = x at hc1 hi1
        generalize hx' : l'.getD k [] = x' at hc1' hi1'
        have Hx := Lib.hid hx
        have Hx' := Lib.hid hx'
        clear hx hx'
        have hcon := equal_any S (w.drewN nd) ia ia' x x' ic ic' (hi1.mod ((Mod.refl none' _).drewN _) (fun _ _ _ => id)) (hi1'.mod ((Mod.refl none' _).drewN _) (fun _ _ _ => id))
        by_cases hxx : x = x'
        · have Hxx := Lib.hid hxx
          rw [decide_eq_true hxx] at hcon
          clear hxx
          go_wp2_with fail
          refine hcon.mono ?_
          clear hcon
          rintro e w1 ⟨rfl, n1, rfl⟩
          rw [World.drewN_drewN]
          go_wp2_with fail
          go_roundg (n - (k + 1))
          case measure => have := Hg.out; omega
          case rel =>
            refine ⟨k + 1, by rw [Hn.out], by rw [Hn.out]; omega, by go_num, fun j hj => ?_, _, rfl⟩
            by_cases e : j = k
            · subst e; rw [Hx.out, Hx'.out]; exact Hxx.out
            · exact Hj.out j (by omega)
        · have Hxx := Lib.hid hxx
          rw [decide_eq_false hxx] at hcon
          clear hxx
          go_wp2_with fail
          refine hcon.mono ?_
          clear hcon
          rintro e w1 ⟨rfl, n1, rfl⟩
          rw [World.drewN_drewN]
          go_wp2_with fail
          go_ret
          have : l ≠ l' := lists_ne (k := k) (by rw [Hx.out, Hx'.out]; exact Hxx.out)
          exact ⟨by simp [this], _, rfl⟩
      · have hk3 : k = n := by omega
        go_wp2_with fail
        go_ret
        have : l = l' := lists_eq (by rw [Hn.out, Hne.out]) (by rw [Hn.out, ← hk3]; exact Hj.out)
        exact ⟨by simp [this], _, rfl⟩
  · have he : ((l.length : Int) != (l'.length : Int)) = true := by simp; omega
    have Hne := Lib.hid hne
    clear hne
    go_enter Tryz.func83, Tryz.ntmps83
    go_wp2_with fail
    go_ret
    have : l ≠ l' := fun e => Hne.out (by rw [e])
    exact ⟨by simp [this], 0, rfl⟩

theorem same18_any (S : Nat → Prop) (w : World) (p q : Proj) (a a' : Option Addr) (c c' : Nat) (h : ListsAt S w a p.chains) (h' : ListsAt S w a' q.chains) :
    Calls Tryz.prog 55 #[.agg #[.int .i64 p.epoch, .slice a p.chains.length c], .agg #[.int .i64 q.epoch, .slice a' q.chains.length c']] w fun e w' => e = .returned (.bool (decide (p = q))) ∧ Below w.heap.size w w' := by
  obtain ⟨e, l⟩ := p
  obtain ⟨e', l'⟩ := q
  simp only at *
  have hM : Mod none' w ((w.alloc (.cells #[.int .i64 e, .slice a l.length c] 24)).alloc (.cells #[.int .i64 e', .slice a' l'.length c'] 24)) := (Mod.refl _ _).alloc _ |>.alloc _
  have hcon := equalFunc_any S _ a a' c c' l l' (h.mod hM (fun _ _ _ => id)) (h'.mod hM (fun _ _ _ => id))
  clear h h'
  by_cases hee : e = e'
  · have he : (e == e') = true := by simp [hee]
    have Hee := Lib.hid hee
    clear hee
    go_enter Tryz.func55, Tryz.ntmps55
    go_wp2_with fail
    refine hcon.mono ?_
    clear hcon
    rintro r w1 ⟨rfl, n1, rfl⟩
    go_wp2_with fail
    go_ret
    refine ⟨?_, (hM.drewN n1).below⟩
    show Ending.returned (.bool (decide (l = l'))) = _
    have hd : decide (l = l') = decide ((⟨e, l⟩ : Proj) = ⟨e', l'⟩) := decide_eq_decide.2 (by rw [Hee.out]; simp)
    rw [hd]
  · have he : (e == e') = false := by simp [hee]
    have Hee := Lib.hid hee
    clear hee
    go_enter Tryz.func55, Tryz.ntmps55
    go_wp2_with fail
    go_ret
    exact ⟨by simp [Hee.out], hM.below⟩
end Go.Proofs.YtghdhhbpbmhooaaGreat
