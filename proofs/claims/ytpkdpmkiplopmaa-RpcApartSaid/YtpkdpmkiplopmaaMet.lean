import Derived.Test.YtpkdpmkiplopmaaKeep
import Derived.Test.YtpkdpmkiplopmaaMapEntry
import Derived.RegionTactic
import Derived.BigRegion
/- the units of a projection, counted in a map -/
namespace Go.Proofs.Ytpkdpmkiplopmaa
open Go.RowKit Esch

def Small (ls : List (List Int)) : Prop := ls.length ≤ 50 ∧ ∀ i, i < ls.length → (ls.getD i []).length ≤ 50
/-- block mb is a map that tells how often each unit stands -/
def MapCnt (w : World) (mb : Nat) (us : List Int) : Prop := ∃ (m : List (Int × Int)) (es : Array MapEntry) (clock : Nat), MapAt w mb κs1 κint m es clock ∧ ∀ u, get m u = cntO us u
theorem MapCnt.mod {F : Nat → Prop} {w w' : World} {mb : Nat} {us : List Int} (h : MapCnt w mb us) (hM : Mod F w w') (hb : ¬ F mb) : MapCnt w' mb us := by
  obtain ⟨m, es, clock, h1, h2⟩ := h
  exact ⟨m, es, clock, h1.of_block (hM.block _ (block_lt h1.block) hb), h2⟩
theorem MapCnt.lt {w : World} {mb : Nat} {us : List Int} (h : MapCnt w mb us) : mb < w.heap.size := by
  obtain ⟨m, es, clock, h1, h2⟩ := h
  exact block_lt h1.block

theorem keyUnit : KeyOK Try.prog 71 κs1 := keyOK_s1 Try.underlying71 (by decide) rfl Try.underlying3 (by kernel_rfl)
theorem zeroInt (w : World) : (zeroValue 3).run Try.prog w = .ok (.int .i64 0) w := by kernel_rfl

/-- what 'm[u]++' does, in whatever order -/
theorem cnt_step {w : World} {mb : Nat} {us : List Int} (h : MapCnt w mb us) (u : Int) : ∃ (c : Int) (st : Nat) (w2 w3 : World), 0 ≤ c ∧ c ≤ us.length ∧ MapCnt w3 mb (us ++ [u]) ∧ Mod (· = mb) w w3 ∧
    (Instr.lookup 66 (.map (some mb)) (.agg #[.int .i64 u]) false).run Try.prog w = .ok (.int .i64 c) w ∧
    (Instr.lookup 66 (.map (some mb)) (.agg #[.int .i64 u]) false).run Try.prog w2 = .ok (.int .i64 c) w2 ∧
    (Instr.mapEntry 66 (.map (some mb)) (.agg #[.int .i64 u])).run Try.prog w = .ok (.tuple #[.int .i64 c, .int .i64 st]) w2 ∧
    (Instr.entryStore 66 (.map (some mb)) (.int .i64 st) (.int .i64 (c + 1))).run Try.prog w2 = .ok () w3 := by
  obtain ⟨m, es, clock, hm, hg⟩ := h
  obtain ⟨st, es1, clock1, h1, h2, h3⟩ := hm.entry keyUnit Try.underlying66 (0 : Int) zeroInt u
  obtain ⟨es2, h4, h5⟩ := h3 (putObj w mb (.map es1 clock1)) ((get m u).getD 0 + 1) h2.block
  have l1 := hm.look keyUnit Try.underlying66 zeroInt u false
  have l2 := h2.look keyUnit Try.underlying66 zeroInt u false
  rw [get_set, if_pos rfl] at l2
  have hle := cntO_le us u
  rw [← hg u] at hle
  have hv : ((get m u).map κint).getD (.int .i64 0) = .int .i64 ((get m u).getD 0) := by cases get m u <;> rfl
  simp only [Bool.false_eq_true, if_false, Option.map_some, Option.getD_some, hv] at l1 l2
  refine ⟨(get m u).getD 0, st, _, _, hle.1, hle.2, ⟨_, _, _, h5, fun v => ?_⟩, ((Mod.refl (· = mb) w).putObj (fun _ => rfl) _).putObj (fun _ => rfl) _, l1, l2, h1, h4⟩
  rw [get_set, cntO_snoc, hg, hg]

def CntPost (w : World) (us : List Int) (e : Ending) (w' : World) : Prop := ∃ mb, e = .returned (.map (some mb)) ∧ MapCnt w' mb us ∧ w.heap.size ≤ mb ∧ Below w.heap.size w w'
def MetRel (w : World) (mb : Nat) (ls : List (List Int)) (g : Nat) (s12 : Value) (wr : World) : Prop :=
  ∃ k : Nat, g = ls.length - k ∧ k ≤ ls.length ∧ s12 = .int .i64 k ∧ MapCnt wr mb (ls.take k).flatten ∧ Below w.heap.size w wr
def MetRel2 (w : World) (mb : Nat) (pre l : List Int) (g : Nat) (s18 : Value) (wr : World) : Prop :=
  ∃ k : Nat, g = l.length - k ∧ k ≤ l.length ∧ s18 = .int .i64 k ∧ MapCnt wr mb (pre ++ l.take k) ∧ Below w.heap.size w wr

theorem take_getD {l : List Int} {k : Nat} (h : k < l.length) : l.take (k + 1) = l.take k ++ [l.getD k 0] := by
  rw [List.take_succ_eq_append_getElem h, List.getD_eq_getElem?_getD, List.getElem?_eq_getElem h, Option.getD_some]
theorem take_getD' {l : List (List Int)} {k : Nat} (h : k < l.length) : l.take (k + 1) = l.take k ++ [l.getD k []] := by
  rw [List.take_succ_eq_append_getElem h, List.getD_eq_getElem?_getD, List.getElem?_eq_getElem h, Option.getD_some]
theorem flat_take {l : List (List Int)} {k : Nat} (h : k < l.length) : (l.take (k + 1)).flatten = (l.take k).flatten ++ l.getD k [] := by
  rw [take_getD' h]; simp
theorem small_flat {ls : List (List Int)} (h : Small ls) (k : Nat) : (ls.take k).flatten.length ≤ 50 * 50 := by
  obtain ⟨h1, h2⟩ := h
  have key : ∀ k, k ≤ ls.length → (ls.take k).flatten.length ≤ k * 50 := by
    intro k
    induction k with
    | zero => simp
    | succ k ih =>
      intro hk
      rw [take_getD' (by omega), List.flatten_append, List.length_append]
      have := ih (by omega)
      have := h2 k (by omega)
      simp only [List.flatten_cons, List.flatten_nil, List.append_nil]
      omega
  rcases Nat.lt_or_ge ls.length k with hk | hk
  · rw [List.take_of_length_le (by omega)]
    have := key ls.length (Nat.le_refl _)
    rw [List.take_of_length_le (by omega)] at this
    omega
  · have := key k hk
    omega

set_option maxHeartbeats 1000000 in
theorem met_any (S : Nat → Prop) (w : World) (e : Int) (a : Option Addr) (c : Nat) (ls : List (List Int)) (hs : Small ls) (h : ListsAt S w a ls) :
    Calls Try.prog 41 #[.agg #[.int .i64 e, .slice a ls.length c]] w (CntPost w ls.flatten) := by
  have hmm := @run_makeMap Try.prog
  have Hs := Lib.hid hs
  have hn := hs.1
  clear hs
  obtain ⟨hm, h⟩ := h
  have H := Lib.hid h
  clear h
  go_enter Try.func41, Try.ntmps41
  go_wp2_with fail
  have hM1 : Below w.heap.size w ((w.alloc (.cells #[.int .i64 e, .slice a ls.length c] 24)).alloc (.map #[] 0)) := ((Below.refl _ _).alloc (Nat.le_refl _) _).alloc (by simp) _
  have hC1 : MapCnt ((w.alloc (.cells #[.int .i64 e, .slice a ls.length c] 24)).alloc (.map #[] 0)) (w.heap.size + 1) [] := ⟨[], #[], 0, ⟨by have := alloc_new (w.alloc (.cells #[.int .i64 e, .slice a ls.length c] 24)) (.map #[] 0); rwa [World.size_alloc] at this, by simp, by simp, by simp, by simp⟩, fun u => by simp [Esch.get, cntO_nil]⟩
  obtain ⟨mb, hmb⟩ : ∃ mb, mb = w.heap.size + 1 := ⟨_, rfl⟩
  rw [← hmb] at hC1 ⊢
  have hmbw : w.heap.size ≤ mb := by omega
  clear hmb
  go_loopg [12] ls.length (fun g s12 wr => MetRel w mb ls g s12 wr)
  case atStart => exact ⟨0, rfl, Nat.zero_le _, rfl, by simpa using hC1, hM1⟩
  case round =>
    clear hC1 hM1
    obtain ⟨k, rfl, hk, rfl, hC, hB⟩ := hrel
    by_cases hlt : k < ls.length
    · obtain ⟨b, off, rfl, -, hb, hc⟩ := H.out (by omega)
      obtain ⟨ia, ic, hc1, hi, -⟩ := hc k hlt
      clear hc
      have hl50 := Hs.out.2 k hlt
      have hfl := small_flat Hs.out k
      have HT := Lib.hid (flat_take hlt)
      replace hc1 := below_at hB hc1 hb
      obtain ⟨hi0, hi1⟩ := hi
      have HI := Lib.hid hi1
      clear hi1
      have hk1 : (0 : Int) ≤ k := by omega
      have hk2 : (k : Int) < ls.length := by omega
      generalize ls.getD k [] = l at *
      generalize (ls.take k).flatten = pre at *
      go_wp2_with fail
      obtain ⟨wo, rfl⟩ : ∃ wo : World, wo = wr := ⟨_, rfl⟩
      go_loopg [18] l.length (fun g s18 wr => MetRel2 w mb pre l g s18 wr)
      case atStart => exact ⟨0, rfl, Nat.zero_le _, rfl, by simpa using hC, hB⟩
      case round =>
        clear hC hB hc1
        obtain ⟨j, rfl, hj, rfl, hC, hB⟩ := hrel
        by_cases hlt2 : j < l.length
        · obtain ⟨b2, off2, rfl, -, hb2, hcj⟩ := HI.out (by omega)
          have hx := below_at hB (hcj j hlt2) hb2
          clear hcj
          have HX := Lib.hid (take_getD hlt2)
          have hlen : (pre ++ l.take j).length ≤ 50 * 50 + 50 := by simp; omega
          generalize l.getD j 0 = x at *
          have hj1 : (0 : Int) ≤ j := by omega
          have hj2 : (j : Int) < l.length := by omega
          obtain ⟨cc, st, w2, w3, hc0, hcl, hC3, hM3, q1, q2, q3, q4⟩ := cnt_step (hC.mod (F := none') ((Mod.refl _ wr).drew) id) x
          have hcb : cc ≤ 100000 := by omega
          have hB3 := hB.drew.trans (hM3.below_at hB.drew.size fun i hi e => by omega)
          clear hcl hM3 hC hlen
          go_wp2_with fail
          go_region
          all_goals go_wp2_with fail
          all_goals go_roundg (l.length - (j + 1))
          all_goals first
            | (show _ < _; omega)
            | exact ⟨j + 1, rfl, by omega, by go_num, by rw [HX.out, ← List.append_assoc]; exact hC3, hB3⟩
        · have hj3 : j = l.length := by omega
          go_wp2_with fail
          go_roundg (ls.length - (k + 1))
          case measure => omega
          case rel => exact ⟨k + 1, rfl, by omega, by go_num, by rw [HT.out]; rwa [List.take_of_length_le (by omega)] at hC, hB⟩
    · go_wp2_with fail
      go_ret
      exact ⟨mb, rfl, by rwa [List.take_of_length_le (by omega)] at hC, hmbw, hB⟩
end Go.Proofs.Ytpkdpmkiplopmaa
