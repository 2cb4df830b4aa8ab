import Derived.Test.YtghdhhbpbmhooaaGreatPkBase
import Derived.Test.YtghdhhbpbmhooaaGreatRows
import Derived.Lib.Hide
import Derived.Deep.LoopGhost
import Derived.Deep.CutRange
import Derived.Deep.DeepCutAuto
import Derived.Deep.QuietTactic
import Derived.BigQuiet
import Derived.RegionTactic
import Derived.BigRegion
import Derived.Maps.AppendAt
import Derived.Deep.AppendLies
import Derived.WalkSpells
import Derived.Deep.Upon
import Derived.Deep.RegionLaw
/- lists and projections in memory; the statements' small helpers -/
namespace Go.Proofs.YtghdhhbpbmhooaaGreat
open Go.RowKit Esch

/-- a holds the list, in a block of S -/
def IntsAt (S : Nat → Prop) (w : World) (a : Option Addr) (l : List Int) : Prop :=
  l.length ≤ 9223372036854775807 ∧ (0 < l.length → ∃ b off, a = some ⟨b, off, none⟩ ∧ S b ∧ b < w.heap.size ∧ ∀ i, i < l.length → w.cell? ⟨b, off + i, none⟩ = some (.int .i64 (l.getD i 0)))
theorem IntsAt.mod {S F : Nat → Prop} {w w' : World} {a : Option Addr} {l : List Int} (h : IntsAt S w a l) (hM : Mod F w w') (hS : ∀ k, S k → k < w.heap.size → ¬ F k) : IntsAt S w' a l := by
  refine ⟨h.1, fun h0 => ?_⟩
  obtain ⟨b, off, rfl, hb, hl, hc⟩ := h.2 h0
  exact ⟨b, off, rfl, hb, Nat.lt_of_lt_of_le hl hM.size, fun i hi => hM.at (hc i hi) (hS b hb hl)⟩
theorem IntsAt.sub {S T : Nat → Prop} {w : World} {a : Option Addr} {l : List Int} (h : IntsAt S w a l) (hS : ∀ k, k < w.heap.size → S k → T k) : IntsAt T w a l := by
  refine ⟨h.1, fun h0 => ?_⟩
  obtain ⟨b, off, rfl, hb, hl, hc⟩ := h.2 h0
  exact ⟨b, off, rfl, hS b hl hb, hl, hc⟩
theorem IntsAt.nil (S : Nat → Prop) (w : World) (a : Option Addr) : IntsAt S w a [] := ⟨by simp, fun h => absurd h (by simp)⟩

theorem ne_of_getD {l l' : List Int} {k : Nat} (h : l.getD k 0 ≠ l'.getD k 0) : l ≠ l' := fun e => h (by rw [e])
theorem eq_of_getD {l l' : List Int} (hl : l.length = l'.length) (h : ∀ k, k < l.length → l.getD k 0 = l'.getD k 0) : l = l' := by
  apply List.ext_getElem hl
  intro i h1 h2
  have := h i h1
  simpa [List.getD_eq_getElem?_getD, List.getElem?_eq_getElem h1, List.getElem?_eq_getElem h2] using this

def Drawn (w : World) (v : Value) (e : Ending) (w' : World) : Prop := e = .returned v ∧ ∃ n, w' = w.drewN n

def IntsRel (w : World) (l l' : List Int) (g : Nat) (s5 : Value) (wr : World) : Prop :=
  ∃ k : Nat, g = l.length - k ∧ k ≤ l.length ∧ s5 = .int .i64 k ∧ (∀ j, j < k → l.getD j 0 = l'.getD j 0) ∧ ∃ n, wr = w.drewN n

def CapOk (l : List Int) (c : Nat) : Prop := l.length ≤ c ∧ c ≤ 9223372036854775807
/-- a holds the lists, in blocks of S -/
def ListsAt (S : Nat → Prop) (w : World) (a : Option Addr) (ls : List (List Int)) : Prop :=
  ls.length ≤ 9223372036854775807 ∧ (0 < ls.length → ∃ b off, a = some ⟨b, off, none⟩ ∧ S b ∧ b < w.heap.size ∧ ∀ i, i < ls.length → ∃ ia ic, w.cell? ⟨b, off + i, none⟩ = some (.slice ia (ls.getD i []).length ic) ∧ IntsAt S w ia (ls.getD i []) ∧ CapOk (ls.getD i []) ic)
theorem ListsAt.mod {S F : Nat → Prop} {w w' : World} {a : Option Addr} {l : List (List Int)} (h : ListsAt S w a l) (hM : Mod F w w') (hS : ∀ k, S k → k < w.heap.size → ¬ F k) : ListsAt S w' a l := by
  refine ⟨h.1, fun h0 => ?_⟩
  obtain ⟨b, off, rfl, hb, hl, hc⟩ := h.2 h0
  refine ⟨b, off, rfl, hb, Nat.lt_of_lt_of_le hl hM.size, fun i hi => ?_⟩
  obtain ⟨ia, ic, h1, h2, h3⟩ := hc i hi
  exact ⟨ia, ic, hM.at h1 (hS b hb hl), h2.mod hM hS, h3⟩
theorem ListsAt.sub {S T : Nat → Prop} {w : World} {a : Option Addr} {l : List (List Int)} (h : ListsAt S w a l) (hS : ∀ k, k < w.heap.size → S k → T k) : ListsAt T w a l := by
  refine ⟨h.1, fun h0 => ?_⟩
  obtain ⟨b, off, rfl, hb, hl, hc⟩ := h.2 h0
  refine ⟨b, off, rfl, hS b hl hb, hl, fun i hi => ?_⟩
  obtain ⟨ia, ic, h1, h2, h3⟩ := hc i hi
  exact ⟨ia, ic, h1, h2.sub hS, h3⟩
theorem ListsAt.nil (S : Nat → Prop) (w : World) (a : Option Addr) : ListsAt S w a [] := ⟨by simp, fun h => absurd h (by simp)⟩

def largeProj (ls : List (List Int)) : Bool := decide (50 < ls.length) || ls.any (fun c => decide (50 < c.length))
def LargeRel (w0 : World) (ls : List (List Int)) (g : Nat) (s3 : Value) (wr : World) : Prop :=
  ∃ k : Nat, g = ls.length - k ∧ k ≤ ls.length ∧ s3 = .int .i64 k ∧ (∀ j, j < k → (ls.getD j []).length ≤ 50) ∧ wr = w0
theorem any_large {ls : List (List Int)} {k : Nat} (hk : k < ls.length) (h : 50 < (ls.getD k []).length) : ls.any (fun c => decide (50 < c.length)) = true := by
  simp only [List.any_eq_true, decide_eq_true_eq]
  rw [List.getD_eq_getElem?_getD, List.getElem?_eq_getElem hk, Option.getD_some] at h
  exact ⟨_, List.getElem_mem hk, h⟩
theorem not_large {ls : List (List Int)} (h : ∀ j, j < ls.length → (ls.getD j []).length ≤ 50) : ls.any (fun c => decide (50 < c.length)) = false := by
  simp only [List.any_eq_false, decide_eq_true_eq]
  intro c hc
  obtain ⟨j, hj, rfl⟩ := List.mem_iff_getElem.1 hc
  have := h j hj
  rw [List.getD_eq_getElem?_getD, List.getElem?_eq_getElem hj, Option.getD_some] at this
  omega
set_option maxHeartbeats 1000000 in
theorem largeProj_any (S : Nat → Prop) (w : World) (e : Int) (a : Option Addr) (c : Nat) (ls : List (List Int)) (h : ListsAt S w a ls) :
    Calls Tryz.prog 8 #[.agg #[.int .i64 e, .slice a ls.length c]] w fun r w' => r = .returned (.bool (largeProj ls)) ∧ Below w.heap.size w w' := by
  obtain ⟨hm, h⟩ := h
  have H := Lib.hid h
  clear h
  unfold largeProj
  by_cases hl : 50 < ls.length
  · go_enter Tryz.func8, Tryz.ntmps8
    go_wp2_with fail
    go_ret
    exact ⟨by simp [hl], (Below.refl _ _).alloc (Nat.le_refl _) _⟩
  · have hl' : ls.length ≤ 50 := by omega
    clear hl
    go_enter Tryz.func8, Tryz.ntmps8
    go_wp2_with fail
    go_loopg [3] ls.length (fun g s3 wr => LargeRel (w.alloc (.cells #[.int .i64 e, .slice a ls.length c] 24)) ls g s3 wr)
    case atStart => exact ⟨0, rfl, Nat.zero_le _, rfl, fun j hj => absurd hj (by omega), rfl⟩
    case round =>
      obtain ⟨k, rfl, hk, rfl, hj, rfl⟩ := hrel
      have Hj := Lib.hid hj
      clear hj
      by_cases hlt : k < ls.length
      · obtain ⟨b, off, rfl, -, hb, hc⟩ := H.out (by omega)
        obtain ⟨ia, ic, hc1, -⟩ := hc k hlt
        clear hc
        generalize hlk : ls.getD k [] = lk at hc1
        have Hlk := Lib.hid hlk
        clear hlk
        by_cases hx : 50 < lk.length
        · have hx' : (50 : Int) < lk.length := by omega
          go_wp2_with fail
          go_ret
          exact ⟨by rw [any_large hlt (by rw [Hlk.out]; exact hx)]; simp, (Below.refl _ _).alloc (Nat.le_refl _) _⟩
        · have hx' : (lk.length : Int) ≤ 50 := by omega
          go_wp2_with fail
          go_roundg (ls.length - (k + 1))
          case measure => omega
          case rel =>
            refine ⟨k + 1, rfl, by omega, by go_num, fun j hj => ?_, rfl⟩
            by_cases e : j = k
            · subst e; rw [Hlk.out]; omega
            · exact Hj.out j (by omega)
      · have hk3 : k = ls.length := by omega
        go_wp2_with fail
        go_ret
        exact ⟨by rw [not_large (by rw [← hk3]; exact Hj.out)]; simp; omega, (Below.refl _ _).alloc (Nat.le_refl _) _⟩

theorem lists_eq {l l' : List (List Int)} (hl : l.length = l'.length) (h : ∀ k, k < l.length → l.getD k [] = l'.getD k []) : l = l' := by
  apply List.ext_getElem hl
  intro i h1 h2
  have := h i h1
  simpa [List.getD_eq_getElem?_getD, List.getElem?_eq_getElem h1, List.getElem?_eq_getElem h2] using this
theorem lists_ne {l l' : List (List Int)} {k : Nat} (h : l.getD k [] ≠ l'.getD k []) : l ≠ l' := fun e => h (by rw [e])
def ProjRel (w0 : World) (l l' : List (List Int)) (g : Nat) (s5 : Value) (wr : World) : Prop :=
  ∃ k : Nat, g = l.length - k ∧ k ≤ l.length ∧ s5 = .int .i64 k ∧ (∀ j, j < k → l.getD j [] = l'.getD j []) ∧ ∃ n, wr = w0.drewN n
end Go.Proofs.YtghdhhbpbmhooaaGreat
/- questions and answers: the statements' helpers -/
namespace Go.Proofs.YtghdhhbpbmhooaaGreat
open Go.RowKit Esch

end Go.Proofs.YtghdhhbpbmhooaaGreat
/- the units of a projection, counted in a map -/
namespace Go.Proofs.YtghdhhbpbmhooaaGreat
open Go.RowKit Esch

def Small (ls : List (List Int)) : Prop := ls.length ≤ 50 ∧ ∀ i, i < ls.length → (ls.getD i []).length ≤ 50
/-- block mb is a map that tells how often each unit stands -/
def MapCnt (w : World) (mb : Nat) (us : List Int) : Prop := ∃ (m : List (Int × Int)) (es : Array MapEntry) (clock : Nat), MapAt w mb κs1 κint m es clock ∧ ∀ u, get m u = cntO us u
theorem MapCnt.mod {F : Nat → Prop} {w w' : World} {mb : Nat} {us : List Int} (h : MapCnt w mb us) (hM : Mod F w w') (hb : ¬ F mb) : MapCnt w' mb us := by
  obtain ⟨m, es, clock, h1, h2⟩ := h
  exact ⟨m, es, clock, h1.of_block (hM.block _ (block_lt h1.block) hb), h2⟩
theorem MapCnt.lt {w : World} {mb : Nat} {us : List Int} (h : MapCnt w mb us) : mb < w.heap.size := by
  obtain ⟨m, es, clock, h1, h2⟩ := h
  exact block_lt h1.block

theorem keyUnit : KeyOK Tryz.prog 144 κs1 := keyOK_s1 Tryz.underlying144 (by decide) rfl Tryz.underlying3 (by kernel_rfl)
theorem zeroInt (w : World) : (zeroValue 3).run Tryz.prog w = .ok (.int .i64 0) w := by kernel_rfl

/-- what 'm[u]++' does, in whatever order -/
theorem cnt_step {w : World} {mb : Nat} {us : List Int} (h : MapCnt w mb us) (u : Int) : ∃ (c : Int) (st : Nat) (w2 w3 : World), 0 ≤ c ∧ c ≤ us.length ∧ MapCnt w3 mb (us ++ [u]) ∧ Mod (· = mb) w w3 ∧
    (Instr.lookup 141 (.map (some mb)) (.agg #[.int .i64 u]) false).run Tryz.prog w = .ok (.int .i64 c) w ∧
    (Instr.lookup 141 (.map (some mb)) (.agg #[.int .i64 u]) false).run Tryz.prog w2 = .ok (.int .i64 c) w2 ∧
    (Instr.mapEntry 141 (.map (some mb)) (.agg #[.int .i64 u])).run Tryz.prog w = .ok (.tuple #[.int .i64 c, .int .i64 st]) w2 ∧
    (Instr.entryStore 141 (.map (some mb)) (.int .i64 st) (.int .i64 (c + 1))).run Tryz.prog w2 = .ok () w3 := by
  obtain ⟨m, es, clock, hm, hg⟩ := h
  obtain ⟨st, es1, clock1, h1, h2, h3⟩ := hm.entry keyUnit Tryz.underlying141 (0 : Int) zeroInt u
  obtain ⟨es2, h4, h5⟩ := h3 (putObj w mb (.map es1 clock1)) ((get m u).getD 0 + 1) h2.block
  have l1 := hm.look keyUnit Tryz.underlying141 zeroInt u false
  have l2 := h2.look keyUnit Tryz.underlying141 zeroInt u false
  rw [get_set, if_pos rfl] at l2
  have hle := cntO_le us u
  rw [← hg u] at hle
  have hv : ((get m u).map κint).getD (.int .i64 0) = .int .i64 ((get m u).getD 0) := by cases get m u <;> rfl
  simp only [Bool.false_eq_true, if_false, Option.map_some, Option.getD_some, hv] at l1 l2
  refine ⟨(get m u).getD 0, st, _, _, hle.1, hle.2, ⟨_, _, _, h5, fun v => ?_⟩, ((Mod.refl (· = mb) w).putObj (fun _ => rfl) _).putObj (fun _ => rfl) _, l1, l2, h1, h4⟩
  rw [get_set, cntO_snoc, hg, hg]

def CntPost (w : World) (us : List Int) (e : Ending) (w' : World) : Prop := ∃ mb, e = .returned (.map (some mb)) ∧ MapCnt w' mb us ∧ w.heap.size ≤ mb ∧ Below w.heap.size w w'
def MetRel (w : World) (mb : Nat) (ls : List (List Int)) (g : Nat) (s12 : Value) (wr : World) : Prop :=
  ∃ k : Nat, g = ls.length - k ∧ k ≤ ls.length ∧ s12 = .int .i64 k ∧ MapCnt wr mb (ls.take k).flatten ∧ Below w.heap.size w wr
def MetRel2 (w : World) (mb : Nat) (pre l : List Int) (g : Nat) (s18 : Value) (wr : World) : Prop :=
  ∃ k : Nat, g = l.length - k ∧ k ≤ l.length ∧ s18 = .int .i64 k ∧ MapCnt wr mb (pre ++ l.take k) ∧ Below w.heap.size w wr

theorem take_getD {l : List Int} {k : Nat} (h : k < l.length) : l.take (k + 1) = l.take k ++ [l.getD k 0] := by
  rw [List.take_succ_eq_append_getElem h, List.getD_eq_getElem?_getD, List.getElem?_eq_getElem h, Option.getD_some]
theorem take_getD' {l : List (List Int)} {k : Nat} (h : k < l.length) : l.take (k + 1) = l.take k ++ [l.getD k []] := by
  rw [List.take_succ_eq_append_getElem h, List.getD_eq_getElem?_getD, List.getElem?_eq_getElem h, Option.getD_some]
theorem flat_take {l : List (List Int)} {k : Nat} (h : k < l.length) : (l.take (k + 1)).flatten = (l.take k).flatten ++ l.getD k [] := by
  rw [take_getD' h]; simp
theorem small_flat {ls : List (List Int)} (h : Small ls) (k : Nat) : (ls.take k).flatten.length ≤ 50 * 50 := by
  obtain ⟨h1, h2⟩ := h
  have key : ∀ k, k ≤ ls.length → (ls.take k).flatten.length ≤ k * 50 := by
    intro k
    induction k with
    | zero => simp
    | succ k ih =>
      intro hk
      rw [take_getD' (by omega), List.flatten_append, List.length_append]
      have := ih (by omega)
      have := h2 k (by omega)
      simp only [List.flatten_cons, List.flatten_nil, List.append_nil]
      omega
  rcases Nat.lt_or_ge ls.length k with hk | hk
  · rw [List.take_of_length_le (by omega)]
    have := key ls.length (Nat.le_refl _)
    rw [List.take_of_length_le (by omega)] at this
    omega
  · have := key k hk
    omega

set_option maxHeartbeats 1000000 in
theorem met_any (S : Nat → Prop) (w : World) (e : Int) (a : Option Addr) (c : Nat) (ls : List (List Int)) (hs : Small ls) (h : ListsAt S w a ls) :
    Calls Tryz.prog 76 #[.agg #[.int .i64 e, .slice a ls.length c]] w (CntPost w ls.flatten) := by
  have hmm := @run_makeMap Tryz.prog
  have Hs := Lib.hid hs
  have hn := hs.1
  clear hs
  obtain ⟨hm, h⟩ := h
  have H := Lib.hid h
  clear h
  go_enter Tryz.func76, Tryz.ntmps76
  go_wp2_with fail
  have hM1 : Below w.heap.size w ((w.alloc (.cells #[.int .i64 e, .slice a ls.length c] 24)).alloc (.map #[] 0)) := ((Below.refl _ _).alloc (Nat.le_refl _) _).alloc (by simp) _
  have hC1 : MapCnt ((w.alloc (.cells #[.int .i64 e, .slice a ls.length c] 24)).alloc (.map #[] 0)) (w.heap.size + 1) [] := ⟨[], #[], 0, ⟨by have := alloc_new (w.alloc (.cells #[.int .i64 e, .slice a ls.length c] 24)) (.map #[] 0); rwa [World.size_alloc] at this, by simp, by simp, by simp, by simp⟩, fun u => by simp [Esch.get, cntO_nil]⟩
  obtain ⟨mb, hmb⟩ : ∃ mb, mb = w.heap.size + 1 := ⟨_, rfl⟩
  rw [← hmb] at hC1 ⊢
  have hmbw : w.heap.size ≤ mb := by omega
  clear hmb
  go_loopg [12] ls.length (fun g s12 wr => MetRel w mb ls g s12 wr)
  case atStart => exact ⟨0, rfl, Nat.zero_le _, rfl, by simpa using hC1, hM1⟩
  case round =>
    clear hC1 hM1
    obtain ⟨k, rfl, hk, rfl, hC, hB⟩ := hrel
    by_cases hlt : k < ls.length
    · obtain ⟨b, off, rfl, -, hb, hc⟩ := H.out (by omega)
      obtain ⟨ia, ic, hc1, hi, -⟩ := hc k hlt
      clear hc
      have hl50 := Hs.out.2 k hlt
      have hfl := small_flat Hs.out k
      have HT := Lib.hid (flat_take hlt)
      replace hc1 := below_at hB hc1 hb
      obtain ⟨hi0, hi1⟩ := hi
      have HI := Lib.hid hi1
      clear hi1
      have hk1 : (0 : Int) ≤ k := by omega
      have hk2 : (k : Int) < ls.length := by omega
      generalize ls.getD k [] = l at *
      generalize (ls.take k).flatten = pre at *
      go_wp2_with fail
      obtain ⟨wo, rfl⟩ : ∃ wo : World, wo = wr := ⟨_, rfl⟩
      go_loopg [18] l.length (fun g s18 wr => MetRel2 w mb pre l g s18 wr)
      case atStart => exact ⟨0, rfl, Nat.zero_le _, rfl, by simpa using hC, hB⟩
      case round =>
        clear hC hB hc1
        obtain ⟨j, rfl, hj, rfl, hC, hB⟩ := hrel
        by_cases hlt2 : j < l.length
        · obtain ⟨b2, off2, rfl, -, hb2, hcj⟩ := HI.out (by omega)
          have hx := below_at hB (hcj j hlt2) hb2
          clear hcj
          have HX := Lib.hid (take_getD hlt2)
          have hlen : (pre ++ l.take j).length ≤ 50 * 50 + 50 := by simp; omega
          generalize l.getD j 0 = x at *
          have hj1 : (0 : Int) ≤ j := by omega
          have hj2 : (j : Int) < l.length := by omega
          obtain ⟨cc, st, w2, w3, hc0, hcl, hC3, hM3, q1, q2, q3, q4⟩ := cnt_step (hC.mod (F := none') ((Mod.refl _ wr).drew) id) x
          have hcb : cc ≤ 100000 := by omega
          have hB3 := hB.drew.trans (hM3.below_at hB.drew.size fun i hi e => by omega)
          clear hcl hM3 hC hlen
          go_wp2_with fail
          go_region
          all_goals go_wp2_with fail
          all_goals go_roundg (l.length - (j + 1))
          all_goals first
            | (show _ < _; omega)
            | exact ⟨j + 1, rfl, by omega, by go_num, by rw [HX.out, ← List.append_assoc]; exact hC3, hB3⟩
        · have hj3 : j = l.length := by omega
          go_wp2_with fail
          go_roundg (ls.length - (k + 1))
          case measure => omega
          case rel => exact ⟨k + 1, rfl, by omega, by go_num, by rw [HT.out]; rwa [List.take_of_length_le (by omega)] at hC, hB⟩
    · go_wp2_with fail
      go_ret
      exact ⟨mb, rfl, by rwa [List.take_of_length_le (by omega)] at hC, hmbw, hB⟩
end Go.Proofs.YtghdhhbpbmhooaaGreat
/- rows of the call's own that read as lists; slices.Clone -/
namespace Go.Proofs.YtghdhhbpbmhooaaGreat
open Go.RowKit Esch

def From (B : Nat) : Nat → Prop := fun k => B ≤ k
theorem own_ints {w : World} {B : Nat} {e : TypeId} {v : Value} {l : List Int} {n : Nat} (h : w.ownsRow B e 1 v n (l.map (Value.int .i64))) : ∃ a c, v = .slice a l.length c ∧ IntsAt (From B) w a l ∧ l.length ≤ c ∧ c ≤ 9223372036854775807 ∧ (a = none → c = 0) ∧ (∀ x, a = some x → ∃ g, x = ⟨g, 0, none⟩) := by
  obtain ⟨hl, h⟩ := h
  simp only [List.length_map, Nat.mul_one] at hl
  subst hl
  rcases h with ⟨rfl, h0⟩ | ⟨g, cap, cur, rfl, hb, hg, hc, hcm, hs, ht⟩
  · have : l = [] := List.length_eq_zero_iff.1 h0
    subst this
    exact ⟨none, 0, rfl, IntsAt.nil _ _ _, by simp, by omega, fun _ => rfl, fun x hx => by cases hx⟩
  · refine ⟨_, cap, rfl, ⟨by unfold Go.maxLen at hcm; omega, fun h0 => ⟨g, 0, rfl, hb, block_lt hg, fun i hi => ?_⟩⟩, hc, (by unfold Go.maxLen at hcm; omega), (fun h => by cases h), (fun x hx => by cases hx; exact ⟨g, rfl⟩)⟩
    have h1 : cur[i]? = some (.int .i64 (l.getD i 0)) := by
      have : (cur.toList.take (l.length * 1))[i]? = (l.map (Value.int .i64))[i]? := by rw [ht]
      rw [List.getElem?_take, if_pos (by omega), Array.getElem?_toList, List.getElem?_map, List.getElem?_eq_getElem hi] at this
      rw [this, List.getD_eq_getElem?_getD, List.getElem?_eq_getElem hi]; rfl
    rw [show (⟨g, 0 + i, none⟩ : Addr) = ⟨g, i, none⟩ by rw [Nat.zero_add]]
    simp [World.cell?, hg, h1]
theorem own_lists {w : World} {S : Nat → Prop} {B : Nat} {e : TypeId} {v : Value} {ls : List (List Int)} {n : Nat} {xs : List Value} (h : w.ownsRow B e 1 v n xs) (hn : n = ls.length)
    (hx : ∀ i, i < ls.length → ∃ ia ic, xs[i]? = some (.slice ia (ls.getD i []).length ic) ∧ IntsAt S w ia (ls.getD i []) ∧ CapOk (ls.getD i []) ic) : ∃ a c, v = .slice a ls.length c ∧ ListsAt (fun k => B ≤ k ∨ S k) w a ls := by
  obtain ⟨hl, h⟩ := h
  subst hn
  rcases h with ⟨rfl, h0⟩ | ⟨g, cap, cur, rfl, hb, hg, hc, hcm, hs, ht⟩
  · have : ls = [] := List.length_eq_zero_iff.1 h0
    subst this
    exact ⟨none, 0, rfl, ListsAt.nil _ _ _⟩
  · refine ⟨_, cap, rfl, by unfold Go.maxLen at hcm; omega, fun h0 => ⟨g, 0, rfl, Or.inl hb, block_lt hg, fun i hi => ?_⟩⟩
    obtain ⟨ia, ic, h1, h2, h3⟩ := hx i hi
    refine ⟨ia, ic, ?_, h2.sub fun k _ hk => Or.inr hk, h3⟩
    have h1' : cur[i]? = some (.slice ia (ls.getD i []).length ic) := by
      have : (cur.toList.take (ls.length * 1))[i]? = xs[i]? := by rw [ht]
      rw [List.getElem?_take, if_pos (by omega), Array.getElem?_toList, h1] at this
      exact this
    rw [show (⟨g, 0 + i, none⟩ : Addr) = ⟨g, i, none⟩ by rw [Nat.zero_add]]
    simp [World.cell?, hg, h1']
theorem IntsAt.news {w : World} {b off : Nat} {l : List Int} (h : ∀ i, i < l.length → w.cell? ⟨b, off + i, none⟩ = some (.int .i64 (l.getD i 0))) :
    ∀ j u, (l.map (Value.int .i64))[j]? = some u → w.cell? ((⟨b, off, none⟩ : Addr).add j) = some u := by
  intro j u hu
  rw [List.getElem?_map] at hu
  obtain ⟨x, hx, rfl⟩ := Option.map_eq_some_iff.1 hu
  have hj := (List.getElem?_eq_some_iff.1 hx).1
  have := h j hj
  rw [List.getD_eq_getElem?_getD, hx] at this
  unfold Addr.add
  split
  · rename_i e; subst e; simpa using this
  · simpa using this
theorem one_ints (l : List Int) : ∀ u ∈ l.map (Value.int .i64), u.oneCell' = true := by
  intro u hu
  obtain ⟨x, -, rfl⟩ := List.mem_map.1 hu
  rfl

theorem Tryz.infoInt : (Tryz.prog.info? 3).map (fun i => (i.zero, i.size, i.bytes)) = some (some (.int .i64 0), 1, 8) := by kernel_rfl
theorem Tryz.infoInts : (Tryz.prog.info? 85).map (fun i => (i.zero, i.size, i.bytes)) = some (some (.slice none 0 0), 1, 24) := by kernel_rfl

/-- an append of integers: whatever the source is -/
theorem run_append_nil {w : World} {P : Program} (base : Nat) (t ty e : TypeId) (i : TypeInfo) (size : Nat) (ht : P.underlying t = some (.slice e)) (hi : P.info? e = some i)
    (v : Value) (n c : Nat) (xs : List Value) (hown : w.ownsRow base e size v n xs) : (Builtin.append_ #[t, t] ty #[v, .slice none 0 c]).run P w = .ok v w := by
  rcases hown.2 with ⟨rfl, rfl⟩ | ⟨g, cap, cur, rfl, _, _, hnc, _⟩
  · simp [Builtin.append_, run_underlying ht, sizeOf, typeInfo, hi, Builtin.lenOf, Builtin.firstCells]
  · simp [Builtin.append_, run_underlying ht, sizeOf, typeInfo, hi, Builtin.lenOf, Builtin.firstCells, hnc, storeCells]
def OwnI (w : World) (B : Nat) (v : Value) (l : List Int) : Prop := w.ownsRow B 3 1 v l.length (l.map (Value.int .i64))
theorem OwnI.nil (w : World) (B : Nat) : OwnI w B (.slice none 0 0) [] := World.ownsRow_nil _ _ _ _
theorem OwnI.made (w : World) {B : Nat} (hB : B ≤ w.heap.size) : OwnI (w.alloc (.cells #[] 3)) B (.slice (some ⟨w.heap.size, 0, none⟩) 0 0) [] := World.ownsRow_made w #[] 0 hB (Nat.zero_le _) rfl
theorem OwnI.mono {w : World} {B B' : Nat} {v : Value} {l : List Int} (h : OwnI w B v l) (hb : B' ≤ B) : OwnI w B' v l :=
  ⟨h.1, h.2.imp id fun ⟨g, cap, cur, h1, h2, h3⟩ => ⟨g, cap, cur, h1, Nat.le_trans hb h2, h3⟩⟩
theorem OwnI.alloc {w : World} {B : Nat} {v : Value} {l : List Int} (h : OwnI w B v l) (o : Obj) : OwnI (w.alloc o) B v l := World.ownsRow.alloc h o
theorem OwnI.ints {w : World} {B : Nat} {v : Value} {l : List Int} (h : OwnI w B v l) : ∃ a c, v = .slice a l.length c ∧ IntsAt (From B) w a l ∧ l.length ≤ c ∧ c ≤ 9223372036854775807 ∧ (a = none → c = 0) ∧ (∀ x, a = some x → ∃ g, x = ⟨g, 0, none⟩) := own_ints h
theorem run_appendI {w : World} (ty : TypeId) (S : Nat → Prop) (B : Nat) (v : Value) (l l' : List Int) (a' : Option Addr) (c' : Nat) (hown : OwnI w B v l) (hsrc : IntsAt S w a' l') (hlen : l.length + l'.length ≤ 1000000) (hB : B ≤ w.heap.size) :
    ∃ v' w', (Builtin.append_ #[85, 85] ty #[v, .slice a' l'.length c']).run Tryz.prog w = .ok v' w' ∧ OwnI w' B v' (l ++ l') ∧ w.grownBy w' v.ownBlock := by
  obtain ⟨i0, hi, hz0, hz1, hz2⟩ := info_parts Tryz.infoInt
  cases a' with
  | none =>
    have h0 : l' = [] := by
      rcases Nat.eq_zero_or_pos l'.length with e | hp
      · exact List.length_eq_zero_iff.1 e
      · obtain ⟨b, off, e, -⟩ := hsrc.2 hp; cases e
    subst h0
    refine ⟨v, w, run_append_nil B _ _ _ i0 1 Tryz.underlying85 hi v l.length c' _ hown, by rw [List.append_nil]; exact hown, ⟨rfl, rfl, rfl, Nat.le_refl _, fun _ _ _ => rfl⟩⟩
  | some ad =>
    obtain ⟨v', w', hr, h2, h3, -⟩ := run_append_own (P := Tryz.prog) w B 85 ty 3 i0 (.int .i64 0) 1 8 Tryz.underlying85 hi hz0 hz1 hz2 rfl (by decide) v l.length (l.map (Value.int .i64)) hown ad l'.length c' (l'.map (Value.int .i64)) (by simp) (by
      intro j u hu
      have hj := (List.getElem?_eq_some_iff.1 hu).1
      obtain ⟨b, off, e, -, hb, hcc⟩ := hsrc.2 (by simp at hj; omega)
      cases e
      exact IntsAt.news hcc j u hu) (one_ints l') (by unfold Go.maxLen; omega) (by omega) hB
    exact ⟨v', w', hr, by unfold OwnI; rw [List.length_append, List.map_append]; exact h2, h3⟩
/-- what lies below B is as it was -/
theorem OwnI.below {w w' : World} {B : Nat} {v : Value} {l : List Int} (h : OwnI w B v l) (hg : w.grownBy w' v.ownBlock) (hB : B ≤ w.heap.size) : Below B w w' :=
  ⟨hg.os, hg.tape, hg.output, hg.size, fun k hk => hg.block k (by omega) (fun e => by
    rcases h.2 with ⟨e', -⟩ | ⟨g, cap, cur, e', hb, -⟩
    · rw [e'] at e; cases e
    · rw [e'] at e; have e : k = g := Option.some.inj e; omega)⟩
theorem step_appendI {ops : Array Oper} {o : Oper} {a : Act} {w : World} {K : Act → World → Prop} {Q : Exit → Act → World → Prop} {E : Prop} (hgd : o.guard = none) (s x : Operand)
    (ho : o.op = .call { callee := .builtin .append, args := #[s, x], argTypes := #[85, 85] }) (S : Nat → Prop) (B : Nat) (v : Value) (l l' : List Int) (a' : Option Addr) (n' c' : Nat) (hs : a.eval s = v) (hx : a.eval x = .slice a' n' c') (hn : n' = l'.length)
    (hown : OwnI w B v l) (hsrc : IntsAt S w a' l') (hlen : l.length + l'.length ≤ 1000000) (hB : B ≤ w.heap.size)
    (h : ∀ v' w', OwnI w' B v' (l ++ l') → Below B w w' → w.grownBy w' v.ownBlock → K (a.put o.dst v') w') :
    if Region.wanted o (yielded ops a.tmps) = true then Oper.wp Tryz.prog o a w K Q else E := by
  have hw : Region.wanted o (yielded ops a.tmps) = true := by simp [Region.wanted, hgd]
  rw [if_pos hw]
  subst hn
  obtain ⟨v', w', hr, h2, h3⟩ := run_appendI (w := w) o.type S B v l l' a' c' hown hsrc hlen hB
  unfold Oper.wp execOp
  simp only [ho, resolve, invoke, builtin, Sem.run_bind, Sem.run_pure, Result.andThen_ok, List.map_toArray, List.map_cons, List.map_nil, hs, hx, hr]
  exact h v' w' h2 (hown.below h3 hB) h3
theorem OwnI.made' (w : World) {B : Nat} (o : Obj) (hB : B ≤ w.heap.size) : OwnI ((w.alloc o).alloc (.cells #[] 3)) B (.slice (some ⟨w.heap.size + 1, 0, none⟩) 0 0) [] := by
  have := OwnI.made (B := B) (w.alloc o) (by rw [World.size_alloc]; omega)
  rwa [World.size_alloc] at this
/-- one integer in a block of its own -/
theorem IntsAt.new (w : World) (u : Int) (t : TypeId) : IntsAt (· = w.heap.size) (w.alloc (.cells #[.int .i64 u] t)) (some ⟨w.heap.size, 0, none⟩) [u] := by
  refine ⟨by simp, fun _ => ⟨w.heap.size, 0, rfl, rfl, by simp, fun i hi => ?_⟩⟩
  simp only [List.length_cons, List.length_nil] at hi
  obtain rfl : i = 0 := by omega
  rw [World.cell?_alloc_new]; rfl
theorem IntsAt.grown {S : Nat → Prop} {w w' : World} {a : Option Addr} {l : List Int} {row : Option Nat} (h : IntsAt S w a l) (hg : w.grownBy w' row) (hne : ∀ k, S k → some k ≠ row) : IntsAt S w' a l := by
  refine ⟨h.1, fun h0 => ?_⟩
  obtain ⟨b, off, rfl, hb, hl, hc⟩ := h.2 h0
  exact ⟨b, off, rfl, hb, Nat.lt_of_lt_of_le hl hg.size, fun i hi => (World.cell?_of_block (hg.block b hl (hne b hb))).trans (hc i hi)⟩
theorem IntsAt.allocd {S : Nat → Prop} {w : World} {a : Option Addr} {l : List Int} (h : IntsAt S w a l) (o : Obj) : IntsAt S (w.alloc o) a l := h.mod ((Mod.refl none' _).alloc _) (fun _ _ _ => id)
theorem IntsAt.take {S : Nat → Prop} {w : World} {a : Option Addr} {l : List Int} (h : IntsAt S w a l) (k : Nat) : IntsAt S w a (l.take k) := by
  refine ⟨by have := h.1; rw [List.length_take]; omega, fun h0 => ?_⟩
  rw [List.length_take] at h0
  obtain ⟨b, off, rfl, hb, hl, hc⟩ := h.2 (by omega)
  refine ⟨b, off, rfl, hb, hl, fun i hi => ?_⟩
  rw [List.length_take] at hi
  rw [hc i (by omega)]
  simp [List.getD_eq_getElem?_getD, show i < k by omega]
theorem IntsAt.drop {S : Nat → Prop} {w : World} {b off : Nat} {l : List Int} (h : IntsAt S w (some ⟨b, off, none⟩) l) (k : Nat) : IntsAt S w (some ⟨b, off + k, none⟩) (l.drop k) := by
  refine ⟨by have := h.1; rw [List.length_drop]; omega, fun h0 => ?_⟩
  rw [List.length_drop] at h0
  obtain ⟨b', off', e, hb, hl, hc⟩ := h.2 (by omega)
  cases e
  refine ⟨b, off + k, rfl, hb, hl, fun i hi => ?_⟩
  rw [List.length_drop] at hi
  have := hc (k + i) (by omega)
  rw [show off + k + i = off + (k + i) by omega, this]
  simp [List.getD_eq_getElem?_getD, List.getElem?_drop]

/-- a list in new memory -/
def SlicePost (w : World) (l : List Int) (e : Ending) (w' : World) : Prop := ∃ a c, e = .returned (.slice a l.length c) ∧ IntsAt (From w.heap.size) w' a l ∧ Below w.heap.size w w' ∧ CapOk l c
set_option maxHeartbeats 1000000 in
theorem clone_any (S : Nat → Prop) (w : World) (a : Option Addr) (c : Nat) (l : List Int) (hl : l.length ≤ 1000) (h : IntsAt S w a l) :
    Calls Tryz.prog 75 #[.slice a l.length c] w (SlicePost w l) := by
  obtain ⟨hm, h⟩ := h
  have H := Lib.hid h
  clear h
  obtain ⟨i0, hi, hz0, hz1, hz2⟩ := info_parts Tryz.infoInt
  have q22 : ∀ (w : World) (a : Option Addr) (n c n' c' : Nat), (binOp .eql 85 (.slice a n c) (.slice none n' c')).run Tryz.prog w = .ok (.bool a.isNone) w := fun w a n c n' c' => Lib.run_eql_slice_nil w _ _ a n c n' c' Tryz.underlying85
  cases a with
  | none =>
    have h0 : l.length = 0 := by
      rcases Nat.eq_zero_or_pos l.length with e | hp
      · exact e
      · obtain ⟨b, off, e, -⟩ := H.out hp; cases e
    have : l = [] := List.length_eq_zero_iff.1 h0
    subst this
    clear h0 hi hz0 hz1 hz2
    go_enter Tryz.func75, Tryz.ntmps75
    go_wp2_with fail
    go_ret
    exact ⟨none, 0, rfl, IntsAt.nil _ _ _, Below.refl _ _, by simp, by omega⟩
  | some ad =>
    have hnew : ∀ j u, (l.map (Value.int .i64))[j]? = some u → (w.alloc (.cells #[] 3)).cell? (ad.add j) = some u := by
      intro j u hu
      have hj := (List.getElem?_eq_some_iff.1 hu).1
      obtain ⟨b, off, e, -, hb, hcc⟩ := H.out (by simp at hj; omega)
      cases e
      rw [World.cell?_alloc_lt _ _ _ (by unfold Addr.add; split <;> exact hb)]
      exact IntsAt.news hcc j u hu
    have HN := Lib.hid hnew
    clear hnew
    go_enter Tryz.func75, Tryz.ntmps75
    go_wp2_with (at_builtin; refine wpList_append_own _ rfl _ _ 85 rfl w.heap.size 3 i0 (.int .i64 0) 1 8 Tryz.underlying85 hi hz0 hz1 hz2 rfl (by decide) _ _ _ rfl (World.ownsRow_made w #[] 0 (Nat.le_refl _) (Nat.zero_le _) rfl) ad l.length c (l.map (Value.int .i64)) rfl ?qc1 ?qc2 ?qc3 ?qc4 ?qc5 ?qc6 ?_)
    case qc1 => simp
    case qc2 => exact HN.out
    case qc3 => exact one_ints l
    case qc4 => unfold Go.maxLen; omega
    case qc5 => omega
    case qc6 => simp
    intro v' w1 hown hgrow hnil
    have HNI := Lib.hid hnil
    clear hnil
    go_wp2
    go_ret
    obtain ⟨a', c', rfl, h2, h3, h4, -⟩ := own_ints (l := l) (by simpa using hown)
    exact ⟨a', c', rfl, h2, ((Below.refl _ w).alloc (Nat.le_refl _) _).grown hgrow (by simp) (by intro k hk; simp [Value.ownBlock] at hk; omega), h3, h4⟩
end Go.Proofs.YtghdhhbpbmhooaaGreat
/- a row of numbers that grows at its end, with its block named: the same one, or a new one -/
namespace Go.Proofs.YtghdhhbpbmhooaaGreat
open Go.RowKit Esch

end Go.Proofs.YtghdhhbpbmhooaaGreat
/- rows that grow and are cut: whatever slice whose array is known as far as its capacity reaches -/
namespace Esch
open Go Go.RowKit

theorem tape_setCells (b : Nat) : ∀ (vs : List Value) (o : Nat) (w : World), (w.setCells b o vs).tape = w.tape
  | [], _, _ => rfl
  | v :: r, o, w => by rw [World.setCells, tape_setCells b r]; rfl
theorem size_setCells' (b : Nat) : ∀ (vs : List Value) (o : Nat) (w : World), (w.setCells b o vs).heap.size = w.heap.size
  | [], _, _ => rfl
  | v :: r, o, w => by rw [World.setCells, size_setCells' b r]; simp
theorem Mod.setCells {F : Nat → Prop} {a w : World} (h : Mod F a w) {b : Nat} (hp : b < a.heap.size → F b) (o : Nat) (vs : List Value) : Mod F a (w.setCells b o vs) :=
  ⟨(World.os_setCells _ _ _ _).trans h.os, (tape_setCells _ _ _ _).trans h.tape, (World.output_setCells _ _ _ _).trans h.output, by rw [size_setCells']; exact h.size,
    fun k hk hF => (World.heap_setCells_other w b o vs (Nat.lt_of_lt_of_le hk h.size) (fun e => by subst e; exact hF (hp hk))).trans (h.block k hk hF)⟩
/-- so many elements, as cells xs, in an array of S that is known as far as it reaches -/
structure GRowAt (w : World) (S : Nat → Prop) (size len cap : Nat) (ao : Option Addr) (xs : List Value) : Prop where
  le : len ≤ cap
  max : cap ≤ 9223372036854775807
  xsLen : xs.length = len * size
  at' : 0 < cap → ∃ b off, ao = some ⟨b, off, none⟩ ∧ S b ∧ b < w.heap.size ∧ (∀ j, j < len * size → w.cell? ⟨b, off + j, none⟩ = xs[j]?) ∧ ∀ j, j < cap * size → (w.cell? ⟨b, off + j, none⟩).isSome = true ∧ w.frozen? ⟨b, off + j, none⟩ = false
theorem GRowAt.nil (w : World) (S : Nat → Prop) (size : Nat) (ao : Option Addr) : GRowAt w S size 0 0 ao [] := ⟨Nat.le_refl _, by omega, by simp, fun h => absurd h (by omega)⟩
theorem GRowAt.mod {S F : Nat → Prop} {w w' : World} {size len cap : Nat} {ao : Option Addr} {xs : List Value} (h : GRowAt w S size len cap ao xs) (hM : Mod F w w') (hS : ∀ k, S k → k < w.heap.size → ¬ F k) : GRowAt w' S size len cap ao xs := by
  refine ⟨h.le, h.max, h.xsLen, fun h0 => ?_⟩
  obtain ⟨b, off, e, hb, hl, h1, h2⟩ := h.at' h0
  have hF := hS b hb hl
  refine ⟨b, off, e, hb, Nat.lt_of_lt_of_le hl hM.size, fun j hj => (hM.cell (p := ⟨b, off + j, none⟩) hl hF).trans (h1 j hj), fun j hj => ?_⟩
  rw [hM.cell (p := ⟨b, off + j, none⟩) hl hF, hM.frozen (p := ⟨b, off + j, none⟩) hl hF]
  exact h2 j hj
theorem GRowAt.sub {S T : Nat → Prop} {w : World} {size len cap : Nat} {ao : Option Addr} {xs : List Value} (h : GRowAt w S size len cap ao xs) (hS : ∀ k, k < w.heap.size → S k → T k) : GRowAt w T size len cap ao xs := by
  refine ⟨h.le, h.max, h.xsLen, fun h0 => ?_⟩
  obtain ⟨b, off, e, hb, hl, h1, h2⟩ := h.at' h0
  exact ⟨b, off, e, hS b hl hb, hl, h1, h2⟩
theorem addr_add (b o j : Nat) : (⟨b, o, none⟩ : Addr).add j = ⟨b, o + j, none⟩ := by
  unfold Addr.add
  split
  · rename_i e; subst e; simp
  · rfl
section
variable {P : Program} {w : World} {S : Nat → Prop} {size len cap : Nat} {ao : Option Addr} {xs : List Value}
/-- n elements more -/
theorem run_append_g (t tx ty e : TypeId) (i : TypeInfo) (z : Value) (bytes : Nat) (ht : P.underlying t = some (.slice e)) (hi : P.info? e = some i) (hz : i.zero = some z) (hsize : i.size = size) (hby : i.bytes = bytes) (hzs : z.cells.size = size)
    (h : GRowAt w S size len cap ao xs) (x : Value) (n : Nat) (news : List Value) (hs : Src P size tx x n news w) (h63 : len + n ≤ 9223372036854775807) (hbytes : (len + n) * bytes ≤ 140737488355328) :
    ∃ ao' cap' w', (Builtin.append_ #[t, tx] ty #[.slice ao len cap, x]).run P w = .ok (.slice ao' (len + n) cap') w' ∧ GRowAt w' (fun k => S k ∨ k = w.heap.size) size (len + n) cap' ao' (xs ++ news) ∧ Mod S w w' ∧ w'.heap.size ≤ w.heap.size + 1 := by
  subst hsize
  subst hby
  have hnl := hs.newsLen
  have hxl := h.xsLen
  have hlen' : (xs ++ news).length = (len + n) * i.size := by rw [List.length_append, hxl, hnl, Nat.add_mul]
  by_cases hfit : len + n ≤ cap
  · rcases Nat.eq_zero_or_pos cap with h0 | h0
    · subst h0
      obtain rfl : len = 0 := by omega
      obtain rfl : n = 0 := by omega
      obtain rfl : news = [] := List.length_eq_zero_iff.1 (by simpa using hnl)
      exact ⟨_, _, _, run_append_nothing (P := P) w t tx ty e i ht hi ao 0 0 (Nat.le_refl _) x hs, by simpa using (h.sub (fun _ _ h => Or.inl h)), Mod.refl _ _, by omega⟩
    · obtain ⟨b, off, eo, hb, hl, h1, h2⟩ := h.at' h0
      subst eo
      have hrc : (len + n) * i.size ≤ cap * i.size := Nat.mul_le_mul_right _ hfit
      have hrc' := hrc
      rw [Nat.add_mul] at hrc'
      have hsome : ∀ j, j < news.length → (w.cell? ⟨b, off + len * i.size + j, none⟩).isSome = true := fun j hj => by rw [Nat.add_assoc]; exact (h2 _ (by omega)).1
      have hrun := run_append_room_src (P := P) w t tx ty e i ht hi b off len cap x n news hs hfit hsome (fun j hj => by rw [Nat.add_assoc]; exact (h2 _ (by omega)).2)
      refine ⟨_, _, _, hrun, ⟨hfit, h.max, hlen', fun _ => ⟨b, off, rfl, Or.inl hb, by rw [size_setCells']; exact hl, fun j hj => ?_, fun j hj => ⟨?_, (World.frozen?_setCells b _ _ _ _).trans (h2 j hj).2⟩⟩⟩, (Mod.refl S w).setCells (fun _ => hb) _ _, by rw [size_setCells']; omega⟩
      · rw [Nat.add_mul] at hj
        by_cases hjo : j < len * i.size
        · rw [World.cell?_setCells_out b _ _ _ _ (fun _ _ => Or.inl (by show off + j < off + len * i.size; omega)), List.getElem?_append_left (by omega)]
          exact h1 j hjo
        · have ht' : j - len * i.size < news.length := by omega
          have := World.cell?_setCells_in b news (off + len * i.size) w hsome (j - len * i.size) ht'
          rw [show off + len * i.size + (j - len * i.size) = off + j by omega] at this
          rw [this, List.getElem?_append_right (by omega), hxl, List.getElem?_eq_getElem ht']
      · by_cases hin : len * i.size ≤ j ∧ j < len * i.size + news.length
        · have := World.cell?_setCells_in b news (off + len * i.size) w hsome (j - len * i.size) (by omega)
          rw [show off + len * i.size + (j - len * i.size) = off + j by omega] at this
          rw [this]; rfl
        · rw [World.cell?_setCells_out b _ _ _ _ (fun _ _ => by show off + j < off + len * i.size ∨ off + len * i.size + news.length ≤ off + j; omega)]
          exact (h2 j hj).1
  · have hold : (Builtin.firstCells i.size len (.slice ao len cap)).run P w.drew = .ok xs.toArray w.drew := by
      rcases Nat.eq_zero_or_pos cap with h0 | h0
      · have := h.le
        subst h0
        obtain rfl : len = 0 := by omega
        obtain rfl : xs = [] := List.length_eq_zero_iff.1 (by simpa using hxl)
        cases ao with
        | none => exact run_firstCells_none w.drew i.size 0 0 0
        | some a' => exact run_firstCells_some w.drew i.size 0 a' 0 0 [] (by simp) (by intro _ _ h'; simp at h')
      · obtain ⟨b, off, eo, hb, hl, h1, h2⟩ := h.at' h0
        subst eo
        refine run_firstCells_some w.drew i.size len ⟨b, off, none⟩ len cap xs hxl (fun j u hu => ?_)
        have hj := (List.getElem?_eq_some_iff.1 hu).1
        rw [addr_add]
        exact (h1 j (by omega)).trans hu
    have hg : cap < len + n := by omega
    have hrun := run_append_grow_src (P := P) w t tx ty e i z ht hi hz ao len cap xs hold x n news hs hg (by omega) (growslice_fits hg hbytes)
    have hge := grownCap_ge w (len + n) cap e
    have hcm := grownCap_le_maxLen w (len + n) cap e h63
    have hsz : (((xs ++ news).toArray) ++ Builtin.zeroCells z.cells (grownCap w (len + n) cap e - (len + n))).size = grownCap w (len + n) cap e * i.size := by
      rw [Array.size_append, List.size_toArray, hlen', size_zeroCells, hzs, ← Nat.add_mul]
      congr 1
      omega
    refine ⟨_, _, _, hrun, ⟨hge, hcm, hlen', fun _ => ⟨w.heap.size, 0, rfl, Or.inr rfl, by simp, fun j hj => ?_, fun j hj => ⟨?_, ?_⟩⟩⟩, ((Mod.refl S w).drew).alloc _, by simp⟩
    · have e1 : (w.drew.alloc (.cells (((xs ++ news).toArray) ++ Builtin.zeroCells z.cells (grownCap w (len + n) cap e - (len + n))) e)).cell? ⟨w.heap.size, j, none⟩ = _ := World.cell?_alloc_new w.drew _ _ j
      rw [Nat.zero_add, e1, Array.getElem?_append_left (by simp only [List.size_toArray]; rw [hlen']; exact hj), List.getElem?_toArray]
    · have e1 : (w.drew.alloc (.cells (((xs ++ news).toArray) ++ Builtin.zeroCells z.cells (grownCap w (len + n) cap e - (len + n))) e)).cell? ⟨w.heap.size, j, none⟩ = _ := World.cell?_alloc_new w.drew _ _ j
      rw [Nat.zero_add, e1, Array.getElem?_eq_getElem (by rw [hsz]; exact hj)]
      rfl
    · rw [Nat.zero_add]
      exact World.frozen?_alloc_new w.drew _ _ j
theorem step_append_g {ops : Array Oper} {o : Oper} {a : Act} {K : Act → World → Prop} {Q : Exit → Act → World → Prop} {E : Prop} (hgd : o.guard = none) (s x : Operand) (t tx : TypeId)
    (ho : o.op = .call { callee := .builtin .append, args := #[s, x], argTypes := #[t, tx] }) (e : TypeId) (i : TypeInfo) (z : Value) (bytes : Nat) (ht : P.underlying t = some (.slice e)) (hi : P.info? e = some i) (hz : i.zero = some z) (hsize : i.size = size) (hby : i.bytes = bytes) (hzs : z.cells.size = size)
    (hv : a.eval s = .slice ao len cap) (h : GRowAt w S size len cap ao xs) (xv : Value) (n : Nat) (news : List Value) (hx : a.eval x = xv) (hs : Src P size tx xv n news w) (h63 : len + n ≤ 9223372036854775807) (hbytes : (len + n) * bytes ≤ 140737488355328)
    (hK : ∀ ao' cap' w', GRowAt w' (fun k => S k ∨ k = w.heap.size) size (len + n) cap' ao' (xs ++ news) → Mod S w w' → w'.heap.size ≤ w.heap.size + 1 → K (a.put o.dst (.slice ao' (len + n) cap')) w') :
    if Region.wanted o (yielded ops a.tmps) = true then Oper.wp P o a w K Q else E := by
  have hw : Region.wanted o (yielded ops a.tmps) = true := by simp [Region.wanted, hgd]
  rw [if_pos hw]
  obtain ⟨ao', cap', w', hr, h1, h2, h3⟩ := run_append_g (P := P) t tx o.type e i z bytes ht hi hz hsize hby hzs h xv n news hs h63 hbytes
  unfold Oper.wp execOp
  simp only [ho, resolve, invoke, builtin, Sem.run_bind, Sem.run_pure, Result.andThen_ok, List.map_toArray, List.map_cons, List.map_nil, hv, hx, hr]
  exact hK ao' cap' w' h1 h2 h3
end
end Esch
