import Derived.Lib.Hide
import Derived.Test.YtdbhbdlljgaleaaGreatDoorPkBase
import Derived.Test.YtdbhbdlljgaleaaGreatDoorRows
import Derived.Deep.LoopGhost
import Derived.Deep.CutRange
import Derived.Deep.DeepCutAuto
import Derived.Deep.QuietTactic
import Derived.BigQuiet
import Derived.Laws.IdiomStrings
import Derived.Laws.Bits64b
/- projections, in plain Lean: units, which is good, which may come next -/
namespace Esch

/-- a unit is put into a rising list -/
def insU (u : Int) : List Int → List Int
  | [] => [u]
  | x :: l => if x < u then x :: insU u l else if x = u then x :: l else u :: x :: l
/-- all units, rising, each once -/
def unitsOf (us : List Int) : List Int := us.foldl (fun l u => insU u l) []

theorem mem_insU {u x : Int} {l : List Int} : x ∈ insU u l ↔ x = u ∨ x ∈ l := by
  induction l with
  | nil => simp [insU]
  | cons a l ih =>
    unfold insU
    split
    · simp only [List.mem_cons, ih]; grind
    · split
      · subst_vars; simp
      · simp
theorem rising_insU {u : Int} {l : List Int} (h : l.Pairwise (· < ·)) : (insU u l).Pairwise (· < ·) := by
  induction l with
  | nil => simp [insU]
  | cons a l ih =>
    obtain ⟨h1, h2⟩ := List.pairwise_cons.1 h
    unfold insU
    split
    · refine List.pairwise_cons.2 ⟨fun x hx => ?_, ih h2⟩
      rcases mem_insU.1 hx with rfl | hx
      · assumption
      · exact h1 x hx
    · split
      · exact h
      · refine List.pairwise_cons.2 ⟨fun x hx => ?_, h⟩
        rcases List.mem_cons.1 hx with rfl | hx
        · omega
        · have := h1 x hx; omega
theorem mem_foldU {x : Int} : ∀ {us l : List Int}, x ∈ us.foldl (fun l u => insU u l) l ↔ x ∈ us ∨ x ∈ l
  | [], l => by simp
  | u :: us, l => by
    simp only [List.foldl_cons, List.mem_cons]
    rw [mem_foldU, mem_insU]; grind
theorem rising_foldU : ∀ {us l : List Int}, l.Pairwise (· < ·) → (us.foldl (fun l u => insU u l) l).Pairwise (· < ·)
  | [], l, h => h
  | u :: us, l, h => by simp only [List.foldl_cons]; exact rising_foldU (rising_insU h)
theorem mem_unitsOf {x : Int} {us : List Int} : x ∈ unitsOf us ↔ x ∈ us := by simp [unitsOf, mem_foldU]
theorem rising_unitsOf (us : List Int) : (unitsOf us).Pairwise (· < ·) := rising_foldU List.Pairwise.nil
theorem rising_ext : ∀ {l l' : List Int}, l.Pairwise (· < ·) → l'.Pairwise (· < ·) → (∀ x, x ∈ l ↔ x ∈ l') → l = l'
  | [], [], _, _, _ => rfl
  | [], a :: l', _, _, h => by have := (h a).2 (by simp); simp at this
  | a :: l, [], _, _, h => by have := (h a).1 (by simp); simp at this
  | a :: l, b :: l', h1, h2, h => by
    obtain ⟨p1, p2⟩ := List.pairwise_cons.1 h1
    obtain ⟨q1, q2⟩ := List.pairwise_cons.1 h2
    have hab : a = b := by
      have ha := (h a).1 (by simp)
      have hb := (h b).2 (by simp)
      rcases List.mem_cons.1 ha with e | ha
      · exact e
      · rcases List.mem_cons.1 hb with e | hb
        · exact e.symm
        · have := p1 b hb; have := q1 a ha; omega
    subst hab
    congr 1
    refine rising_ext p2 q2 fun x => ?_
    have := h x
    simp only [List.mem_cons] at this
    constructor
    · intro hx
      rcases this.1 (Or.inr hx) with rfl | hx'
      · exact absurd (p1 _ hx) (by omega)
      · exact hx'
    · intro hx
      rcases this.2 (Or.inr hx) with rfl | hx'
      · exact absurd (q1 _ hx) (by omega)
      · exact hx'
/-- whatever is rising and has just these units is it -/
theorem eq_unitsOf {l us : List Int} (h : l.Pairwise (· < ·)) (hm : ∀ x, x ∈ l ↔ x ∈ us) : l = unitsOf us := rising_ext h (rising_unitsOf us) fun x => by rw [hm, mem_unitsOf]
theorem unitsOf_congr {us vs : List Int} (h : ∀ x, x ∈ us ↔ x ∈ vs) : unitsOf us = unitsOf vs := eq_unitsOf (rising_unitsOf us) fun x => by rw [mem_unitsOf, h]
theorem length_insU (u : Int) {l : List Int} (h : l.Pairwise (· < ·)) : (insU u l).length = l.length + if u ∈ l then 0 else 1 := by
  induction l with
  | nil => simp [insU]
  | cons a l ih =>
    obtain ⟨h1, h2⟩ := List.pairwise_cons.1 h
    unfold insU
    split
    · rename_i ha
      rw [List.length_cons, ih h2, List.length_cons]
      have : u ≠ a := by omega
      simp only [List.mem_cons, this, false_or]; omega
    · split
      · rename_i e; subst e; simp
      · rename_i h3 h4
        have : u ∉ a :: l := by
          simp only [List.mem_cons, not_or]
          exact ⟨fun e => h4 e.symm, fun hm => by have := h1 u hm; omega⟩
        simp [this]
theorem length_foldU : ∀ {us l : List Int}, l.Pairwise (· < ·) → (us.foldl (fun l u => insU u l) l).length ≤ l.length + us.length ∧ ((us.foldl (fun l u => insU u l) l).length = l.length + us.length ↔ us.Nodup ∧ ∀ x ∈ us, x ∉ l)
  | [], l, _ => by simp
  | u :: us, l, h => by
    simp only [List.foldl_cons, List.length_cons, List.nodup_cons, List.mem_cons, forall_eq_or_imp]
    obtain ⟨h1, h2⟩ := length_foldU (us := us) (rising_insU (u := u) h)
    have h3 := length_insU u h
    by_cases hu : u ∈ l
    · simp only [hu, if_true] at h3
      refine ⟨by omega, ⟨fun e => by omega, fun e => absurd hu e.2.1⟩⟩
    · simp only [hu, if_false] at h3
      refine ⟨by omega, ?_⟩
      rw [show l.length + (us.length + 1) = (insU u l).length + us.length by omega, h2]
      constructor
      · rintro ⟨a, b⟩
        exact ⟨⟨fun hm => b u hm (mem_insU.2 (Or.inl rfl)), a⟩, hu, fun x hx hl => b x hx (mem_insU.2 (Or.inr hl))⟩
      · rintro ⟨⟨a, b⟩, -, c⟩
        refine ⟨b, fun x hx hm => ?_⟩
        rcases mem_insU.1 hm with rfl | hm
        · exact a hx
        · exact c x hx hm
theorem length_unitsOf (us : List Int) : (unitsOf us).length ≤ us.length := by have := (length_foldU (us := us) List.Pairwise.nil).1; simpa [unitsOf] using this
theorem length_unitsOf_iff (us : List Int) : (unitsOf us).length = us.length ↔ us.Nodup := by
  have := (length_foldU (us := us) List.Pairwise.nil).2
  simpa [unitsOf] using this
theorem unitsOf_snoc (us : List Int) (u : Int) : unitsOf (us ++ [u]) = insU u (unitsOf us) := by simp [unitsOf]

/-- a projection -/
structure Proj where
  epoch : Int
  chains : List (List Int)
  deriving DecidableEq
instance : Inhabited Proj := ⟨⟨0, []⟩⟩
def Proj.units (p : Proj) : List Int := p.chains.flatten
def Proj.good (p : Proj) : Prop := 0 ≤ p.epoch ∧ p.epoch ≤ 2147483647 ∧ 1 ≤ p.chains.length ∧ p.chains.length ≤ 4 ∧ (∀ c ∈ p.chains, 1 ≤ c.length ∧ c.length ≤ 4) ∧ (∀ u ∈ p.units, 0 ≤ u ∧ u ≤ 15) ∧ p.units.Nodup
instance (p : Proj) : Decidable p.good := by unfold Proj.good; infer_instance
def goodB (p : Proj) : Bool := decide p.good

/-- where a unit stands first -/
def posOf (x : Int) : List Int → Option Nat
  | [] => none
  | a :: l => if a = x then some 0 else (posOf x l).map (· + 1)
/-- how many units stand in the elder chain, one behind the other -/
def heads : List Int → List Int → Nat
  | _, [] => 0
  | old, x :: c => match posOf x old with
    | none => 0
    | some k => heads (old.drop (k + 1)) c + 1
/-- does a chain fit behind another? -/
def chainNext (old all c : List Int) : Prop := heads old c ≠ 0 ∧ ∀ u ∈ c.drop (heads old c), u ∉ all
instance (old all c : List Int) : Decidable (chainNext old all c) := by unfold chainNext; infer_instance
def Proj.next (p q : Proj) : Prop := p.good ∧ q.good ∧ q.epoch = p.epoch + 1 ∧ q.chains.length = p.chains.length ∧ ∀ i, i < q.chains.length → chainNext (p.chains.getD i []) p.units (q.chains.getD i [])
instance (p q : Proj) : Decidable (p.next q) := by unfold Proj.next; infer_instance
def nextB (p q : Proj) : Bool := decide (p.next q)

theorem posOf_none {x : Int} {l : List Int} : posOf x l = none ↔ x ∉ l := by
  induction l with
  | nil => simp [posOf]
  | cons a l ih =>
    unfold posOf
    split
    · subst_vars; simp
    · rename_i h; simp only [Option.map_eq_none_iff, ih, List.mem_cons, not_or]; exact ⟨fun h' => ⟨fun e => h e.symm, h'⟩, fun h' => h'.2⟩
theorem posOf_some {x : Int} {l : List Int} {k : Nat} (h : posOf x l = some k) : k < l.length ∧ l[k]? = some x ∧ ∀ j, j < k → l[j]? ≠ some x := by
  induction l generalizing k with
  | nil => simp [posOf] at h
  | cons a l ih =>
    unfold posOf at h
    split at h
    · cases h; subst_vars; simp
    · rename_i hne
      obtain ⟨j, hj, rfl⟩ := Option.map_eq_some_iff.1 h
      obtain ⟨h1, h2, h3⟩ := ih hj
      refine ⟨by simp; omega, by simpa using h2, fun i hi => ?_⟩
      cases i with
      | zero => simpa using hne
      | succ i => simpa using h3 i (by omega)
theorem heads_le (old c : List Int) : heads old c ≤ c.length := by
  induction c generalizing old with
  | nil => simp [heads]
  | cons x c ih =>
    unfold heads
    split
    · simp
    · rename_i k _; simp only [List.length_cons]; have := ih (old.drop (k + 1)); omega
theorem heads_nil (old : List Int) : heads old [] = 0 := by cases old <;> rfl
theorem heads_some {x : Int} {old c : List Int} {k : Nat} (h : posOf x old = some k) : heads old (x :: c) = heads (old.drop (k + 1)) c + 1 := by
  rw [heads, h]
theorem heads_none {x : Int} {old c : List Int} (h : posOf x old = none) : heads old (x :: c) = 0 := by
  rw [heads, h]
theorem drop_at {l : List Int} {k : Nat} (h : k < l.length) : l.drop k = l.getD k 0 :: l.drop (k + 1) := by
  rw [List.drop_eq_getElem_cons h, List.getD_eq_getElem?_getD, List.getElem?_eq_getElem h, Option.getD_some]

/-- on the way through a chain -/
def HeadsAt (old c : List Int) (n at' : Nat) : Prop := n ≤ c.length ∧ at' ≤ old.length ∧ heads old c = n + heads (old.drop at') (c.drop n)
theorem HeadsAt.start (old c : List Int) : HeadsAt old c 0 0 := ⟨by simp, by simp, by simp⟩
theorem HeadsAt.step {old c : List Int} {n at' k : Nat} (h : HeadsAt old c n at') (hn : n < c.length) (hk : posOf (c.getD n 0) (old.drop at') = some k) : HeadsAt old c (n + 1) (at' + k + 1) := by
  obtain ⟨h1, h2, h3⟩ := h
  have h4 := (posOf_some hk).1
  simp only [List.length_drop] at h4
  refine ⟨by omega, by omega, ?_⟩
  rw [h3, drop_at hn, heads_some hk, List.drop_drop, show at' + (k + 1) = at' + k + 1 by omega]; omega
theorem HeadsAt.stop {old c : List Int} {n at' : Nat} (h : HeadsAt old c n at') (hn : n < c.length) (hk : posOf (c.getD n 0) (old.drop at') = none) : heads old c = n := by
  rw [h.2.2, drop_at hn, heads_none hk]; rfl
theorem HeadsAt.out {old c : List Int} {n at' : Nat} (h : HeadsAt old c n at') (hn : n = c.length) : heads old c = n := by
  rw [h.2.2, hn, List.drop_length, heads_nil]; rfl
theorem HeadsAt.stop' {old c : List Int} {n at' : Nat} (h : HeadsAt old c n at') (hn : n < c.length) (hk : c.getD n 0 ∉ old) : heads old c = n :=
  h.stop hn (posOf_none.2 fun hm => hk (List.mem_of_mem_drop hm))
/-- a unit that stands in the elder chain, but not where it must -/
theorem HeadsAt.bad {old c all : List Int} {n at' : Nat} (h : HeadsAt old c n at') (hn : n < c.length) (hk : posOf (c.getD n 0) (old.drop at') = none) (ho : c.getD n 0 ∈ all) : ¬ chainNext old all c := by
  rintro ⟨-, h2⟩
  rw [h.stop hn hk] at h2
  exact h2 (c.getD n 0) (by rw [drop_at hn]; simp) ho

/-! how often a unit stands, as the map of what was met tells it -/
def cntO (us : List Int) (u : Int) : Option Int := if us.count u = 0 then none else some (us.count u : Nat)
theorem cntO_nil (u : Int) : cntO [] u = none := by simp [cntO]
theorem cntO_snoc (us : List Int) (u v : Int) : cntO (us ++ [u]) v = if u = v then some ((cntO us u).getD 0 + 1) else cntO us v := by
  unfold cntO
  simp only [List.count_append, List.count_cons, List.count_nil]
  by_cases h : u = v
  · subst h
    simp only [beq_self_eq_true, if_true]
    by_cases h0 : us.count u = 0
    · simp [h0]
    · simp [h0]
  · simp [h]
theorem cntO_le (us : List Int) (u : Int) : 0 ≤ (cntO us u).getD 0 ∧ (cntO us u).getD 0 ≤ us.length := by
  unfold cntO
  have := List.count_le_length (a := u) (l := us)
  split
  · simp
  · simp; omega
theorem cntO_pos (us : List Int) (u : Int) : 0 < (cntO us u).getD 0 ↔ u ∈ us := by
  unfold cntO
  have := List.count_pos_iff (a := u) (l := us)
  split
  · rename_i h; rw [h] at this; simp at this; simp [this]
  · rename_i h; simp only [Option.getD_some]; rw [← this]; omega
theorem cntO_some (us : List Int) (u : Int) : (cntO us u).isSome ↔ u ∈ us := by
  unfold cntO
  have := List.count_pos_iff (a := u) (l := us)
  split
  · rename_i h; rw [h] at this; simp at this; simp [this]
  · rename_i h; simp; rw [← this]; omega
/-- what is asked of each unit that was met -/
def unitOk (p : Int × Int) : Prop := 0 ≤ p.1 ∧ p.1 < 16 ∧ p.2 ≤ 1
theorem units_ok {us : List Int} (h : ∀ u n, cntO us u = some n → unitOk (u, n)) : (∀ u ∈ us, 0 ≤ u ∧ u ≤ 15) ∧ us.Nodup := by
  constructor
  · intro u hu
    obtain ⟨n, hn⟩ := Option.isSome_iff_exists.1 ((cntO_some us u).2 hu)
    have := h u n hn
    unfold unitOk at this
    omega
  · rw [List.nodup_iff_count]
    intro u
    by_cases hu : u ∈ us
    · obtain ⟨n, hn⟩ := Option.isSome_iff_exists.1 ((cntO_some us u).2 hu)
      have := (h u n hn).2.2
      unfold cntO at hn
      split at hn
      · cases hn
      · cases hn; simp only at this; omega
    · rw [List.count_eq_zero.2 hu]; omega
theorem units_ok' {us : List Int} (h1 : ∀ u ∈ us, 0 ≤ u ∧ u ≤ 15) (h2 : us.Nodup) {u n : Int} (h : cntO us u = some n) : unitOk (u, n) := by
  have hu := (cntO_some us u).1 (by rw [h]; rfl)
  have := h1 u hu
  rw [List.nodup_iff_count] at h2
  have := h2 u
  unfold cntO at h
  split at h
  · cases h
  · cases h; exact ⟨by omega, by omega, by simp; omega⟩
theorem insU_pre {u : Int} : ∀ {l : List Int} {k : Nat}, k ≤ l.length → (∀ i, i < k → l.getD i 0 < u) → insU u l = l.take k ++ insU u (l.drop k)
  | l, 0, _, _ => by simp
  | [], k + 1, h, _ => by simp at h
  | x :: l, k + 1, h, hi => by
    have h0 := hi 0 (by omega)
    simp only [List.getD_cons_zero] at h0
    rw [insU, if_pos h0, List.take_succ_cons, List.drop_succ_cons, List.cons_append, insU_pre (by simpa using h) (fun i hik => by simpa using hi (i + 1) (by omega))]
theorem insU_end {u : Int} {l : List Int} {k : Nat} (hk : k = l.length) (hi : ∀ i, i < k → l.getD i 0 < u) : insU u l = l.take k ++ [u] ++ l.drop k := by
  rw [insU_pre (by omega) hi, hk, List.drop_length]; simp [insU]
theorem insU_hit {u : Int} {l : List Int} {k : Nat} (hk : k < l.length) (hi : ∀ i, i < k → l.getD i 0 < u) (h : l.getD k 0 = u) : insU u l = l := by
  rw [insU_pre (by omega) hi, drop_at hk, h, insU]
  simp only [Int.lt_irrefl, if_false, if_true]
  rw [← h, ← drop_at hk, List.take_append_drop]
theorem insU_mid {u : Int} {l : List Int} {k : Nat} (hk : k < l.length) (hi : ∀ i, i < k → l.getD i 0 < u) (h : u < l.getD k 0) : insU u l = l.take k ++ [u] ++ l.drop k := by
  rw [insU_pre (by omega) hi, drop_at hk, insU, if_neg (by omega), if_neg (by omega)]; simp
theorem length_unitsOf_le {us : List Int} {n : Nat} (h : us.length ≤ n) : (unitsOf us).length ≤ n := Nat.le_trans (length_unitsOf us) h
end Esch
/- lists and projections in memory; the statements' small helpers -/
namespace Go.Proofs.YtdbhbdlljgaleaaGreatDoor
open Go.RowKit Esch

/-- a holds the list, in a block of S -/
def IntsAt (S : Nat → Prop) (w : World) (a : Option Addr) (l : List Int) : Prop :=
  l.length ≤ 9223372036854775807 ∧ (0 < l.length → ∃ b off, a = some ⟨b, off, none⟩ ∧ S b ∧ b < w.heap.size ∧ ∀ i, i < l.length → w.cell? ⟨b, off + i, none⟩ = some (.int .i64 (l.getD i 0)))
theorem IntsAt.mod {S F : Nat → Prop} {w w' : World} {a : Option Addr} {l : List Int} (h : IntsAt S w a l) (hM : Mod F w w') (hS : ∀ k, S k → k < w.heap.size → ¬ F k) : IntsAt S w' a l := by
  refine ⟨h.1, fun h0 => ?_⟩
  obtain ⟨b, off, rfl, hb, hl, hc⟩ := h.2 h0
  exact ⟨b, off, rfl, hb, Nat.lt_of_lt_of_le hl hM.size, fun i hi => hM.at (hc i hi) (hS b hb hl)⟩
theorem IntsAt.sub {S T : Nat → Prop} {w : World} {a : Option Addr} {l : List Int} (h : IntsAt S w a l) (hS : ∀ k, k < w.heap.size → S k → T k) : IntsAt T w a l := by
  refine ⟨h.1, fun h0 => ?_⟩
  obtain ⟨b, off, rfl, hb, hl, hc⟩ := h.2 h0
  exact ⟨b, off, rfl, hS b hl hb, hl, hc⟩
theorem IntsAt.nil (S : Nat → Prop) (w : World) (a : Option Addr) : IntsAt S w a [] := ⟨by simp, fun h => absurd h (by simp)⟩

theorem ne_of_getD {l l' : List Int} {k : Nat} (h : l.getD k 0 ≠ l'.getD k 0) : l ≠ l' := fun e => h (by rw [e])
theorem eq_of_getD {l l' : List Int} (hl : l.length = l'.length) (h : ∀ k, k < l.length → l.getD k 0 = l'.getD k 0) : l = l' := by
  apply List.ext_getElem hl
  intro i h1 h2
  have := h i h1
  simpa [List.getD_eq_getElem?_getD, List.getElem?_eq_getElem h1, List.getElem?_eq_getElem h2] using this

def Drawn (w : World) (v : Value) (e : Ending) (w' : World) : Prop := e = .returned v ∧ ∃ n, w' = w.drewN n
theorem Drawn.mod {w w' : World} {v : Value} {e : Ending} {F : Nat → Prop} (h : Drawn w v e w') : Mod F w w' := by
  obtain ⟨_, n, rfl⟩ := h
  exact (Mod.refl _ _).drewN n

def IntsRel (w : World) (l l' : List Int) (g : Nat) (s5 : Value) (wr : World) : Prop :=
  ∃ k : Nat, g = l.length - k ∧ k ≤ l.length ∧ s5 = .int .i64 k ∧ (∀ j, j < k → l.getD j 0 = l'.getD j 0) ∧ ∃ n, wr = w.drewN n
def CapOk (l : List Int) (c : Nat) : Prop := l.length ≤ c ∧ c ≤ 9223372036854775807
/-- a holds the lists, in blocks of S -/
def ListsAt (S : Nat → Prop) (w : World) (a : Option Addr) (ls : List (List Int)) : Prop :=
  ls.length ≤ 9223372036854775807 ∧ (0 < ls.length → ∃ b off, a = some ⟨b, off, none⟩ ∧ S b ∧ b < w.heap.size ∧ ∀ i, i < ls.length → ∃ ia ic, w.cell? ⟨b, off + i, none⟩ = some (.slice ia (ls.getD i []).length ic) ∧ IntsAt S w ia (ls.getD i []) ∧ CapOk (ls.getD i []) ic)
theorem ListsAt.mod {S F : Nat → Prop} {w w' : World} {a : Option Addr} {l : List (List Int)} (h : ListsAt S w a l) (hM : Mod F w w') (hS : ∀ k, S k → k < w.heap.size → ¬ F k) : ListsAt S w' a l := by
  refine ⟨h.1, fun h0 => ?_⟩
  obtain ⟨b, off, rfl, hb, hl, hc⟩ := h.2 h0
  refine ⟨b, off, rfl, hb, Nat.lt_of_lt_of_le hl hM.size, fun i hi => ?_⟩
  obtain ⟨ia, ic, h1, h2, h3⟩ := hc i hi
  exact ⟨ia, ic, hM.at h1 (hS b hb hl), h2.mod hM hS, h3⟩
theorem ListsAt.sub {S T : Nat → Prop} {w : World} {a : Option Addr} {l : List (List Int)} (h : ListsAt S w a l) (hS : ∀ k, k < w.heap.size → S k → T k) : ListsAt T w a l := by
  refine ⟨h.1, fun h0 => ?_⟩
  obtain ⟨b, off, rfl, hb, hl, hc⟩ := h.2 h0
  refine ⟨b, off, rfl, hS b hl hb, hl, fun i hi => ?_⟩
  obtain ⟨ia, ic, h1, h2, h3⟩ := hc i hi
  exact ⟨ia, ic, h1, h2.sub hS, h3⟩
theorem ListsAt.nil (S : Nat → Prop) (w : World) (a : Option Addr) : ListsAt S w a [] := ⟨by simp, fun h => absurd h (by simp)⟩

def largeProj (ls : List (List Int)) : Bool := decide (50 < ls.length) || ls.any (fun c => decide (50 < c.length))
def LargeRel (w0 : World) (ls : List (List Int)) (g : Nat) (s3 : Value) (wr : World) : Prop :=
  ∃ k : Nat, g = ls.length - k ∧ k ≤ ls.length ∧ s3 = .int .i64 k ∧ (∀ j, j < k → (ls.getD j []).length ≤ 50) ∧ wr = w0
theorem any_large {ls : List (List Int)} {k : Nat} (hk : k < ls.length) (h : 50 < (ls.getD k []).length) : ls.any (fun c => decide (50 < c.length)) = true := by
  simp only [List.any_eq_true, decide_eq_true_eq]
  rw [List.getD_eq_getElem?_getD, List.getElem?_eq_getElem hk, Option.getD_some] at h
  exact ⟨_, List.getElem_mem hk, h⟩
theorem not_large {ls : List (List Int)} (h : ∀ j, j < ls.length → (ls.getD j []).length ≤ 50) : ls.any (fun c => decide (50 < c.length)) = false := by
  simp only [List.any_eq_false, decide_eq_true_eq]
  intro c hc
  obtain ⟨j, hj, rfl⟩ := List.mem_iff_getElem.1 hc
  have := h j hj
  rw [List.getD_eq_getElem?_getD, List.getElem?_eq_getElem hj, Option.getD_some] at this
  omega
theorem lists_eq {l l' : List (List Int)} (hl : l.length = l'.length) (h : ∀ k, k < l.length → l.getD k [] = l'.getD k []) : l = l' := by
  apply List.ext_getElem hl
  intro i h1 h2
  have := h i h1
  simpa [List.getD_eq_getElem?_getD, List.getElem?_eq_getElem h1, List.getElem?_eq_getElem h2] using this
theorem lists_ne {l l' : List (List Int)} {k : Nat} (h : l.getD k [] ≠ l'.getD k []) : l ≠ l' := fun e => h (by rw [e])
def ProjRel (w0 : World) (l l' : List (List Int)) (g : Nat) (s5 : Value) (wr : World) : Prop :=
  ∃ k : Nat, g = l.length - k ∧ k ≤ l.length ∧ s5 = .int .i64 k ∧ (∀ j, j < k → l.getD j [] = l'.getD j []) ∧ ∃ n, wr = w0.drewN n
end Go.Proofs.YtdbhbdlljgaleaaGreatDoor
/- numbers as bytes, the highest first: plain Lean -/
namespace Esch
def digit (v j : Nat) : UInt8 := UInt8.ofNat (v / 256 ^ j)
theorem digit_toNat (v j : Nat) : (digit v j).toNat = v / 256 ^ j % 256 := by
  simp [digit, UInt8.toNat_ofNat']
/-- a number's lowest bytes, the highest first -/
def putB (v : Nat) : Nat → List UInt8
  | 0 => []
  | n + 1 => digit v n :: putB v n
theorem putB_length (v : Nat) : ∀ n, (putB v n).length = n
  | 0 => rfl
  | n + 1 => by simp [putB, putB_length v n]
theorem putB_get (v : Nat) : ∀ (n i : Nat), i < n → (putB v n)[i]? = some (digit v (n - 1 - i))
  | 0, i, h => by omega
  | n + 1, 0, _ => by simp [putB]
  | n + 1, i + 1, h => by
    simp only [putB, List.getElem?_cons_succ]
    rw [putB_get v n i (by omega)]
    congr 2
    omega
def getB (l : List UInt8) : Nat := l.foldl (fun a b => a * 256 + b.toNat) 0
theorem getB_nil : getB [] = 0 := rfl
theorem getB_snoc (l : List UInt8) (b : UInt8) : getB (l ++ [b]) = getB l * 256 + b.toNat := by simp [getB, List.foldl_append]
theorem foldl_getB (l : List UInt8) : ∀ a, l.foldl (fun a b => a * 256 + b.toNat) a = a * 256 ^ l.length + getB l := by
  induction l with
  | nil => intro a; simp [getB]
  | cons x l ih =>
    intro a
    have e : getB (x :: l) = x.toNat * 256 ^ l.length + getB l := by rw [getB, List.foldl_cons, ih]; simp
    rw [List.foldl_cons, ih, e, List.length_cons, Nat.pow_succ, Nat.add_mul, Nat.mul_assoc, Nat.mul_comm 256 (256 ^ l.length)]
    omega
theorem getB_cons (x : UInt8) (l : List UInt8) : getB (x :: l) = x.toNat * 256 ^ l.length + getB l := by
  rw [getB, List.foldl_cons, foldl_getB]; simp
theorem getB_lt (l : List UInt8) : getB l < 256 ^ l.length := by
  induction l with
  | nil => simp [getB]
  | cons x l ih =>
    rw [getB_cons, List.length_cons, Nat.pow_succ]
    have := x.toNat_lt
    have h1 : x.toNat * 256 ^ l.length ≤ 255 * 256 ^ l.length := Nat.mul_le_mul_right _ (by omega)
    omega
theorem getB_putB (v : Nat) : ∀ n, getB (putB v n) = v % 256 ^ n
  | 0 => by simp [putB, getB, Nat.mod_one]
  | n + 1 => by
    rw [putB, getB_cons, putB_length, getB_putB v n, digit_toNat, Nat.pow_succ, Nat.mod_mul]
    rw [Nat.mul_comm]
    omega
theorem getB_putB' {v n : Nat} (h : v < 256 ^ n) : getB (putB v n) = v := by rw [getB_putB, Nat.mod_eq_of_lt h]
theorem digit_add {a b n : Nat} : ∀ i, i < n → digit (a * 256 ^ n + b) i = digit b i := by
  intro i hi
  apply UInt8.toNat_inj.1
  rw [digit_toNat, digit_toNat]
  have e : 256 ^ n = 256 ^ i * (256 * 256 ^ (n - 1 - i)) := by
    rw [← Nat.mul_assoc, ← Nat.pow_succ, ← Nat.pow_add]; congr 1; omega
  rw [e, show a * (256 ^ i * (256 * 256 ^ (n - 1 - i))) + b = b + 256 ^ i * (a * (256 * 256 ^ (n - 1 - i))) by rw [Nat.mul_left_comm]; omega]
  rw [Nat.add_mul_div_left _ _ (Nat.pow_pos (by decide)), show a * (256 * 256 ^ (n - 1 - i)) = 256 * (a * 256 ^ (n - 1 - i)) by rw [Nat.mul_left_comm], Nat.add_mul_mod_self_left]
theorem putB_congr {a b : Nat} : ∀ {n}, (∀ i, i < n → digit a i = digit b i) → putB a n = putB b n
  | 0, _ => rfl
  | n + 1, h => by rw [putB, putB, h n (by omega), putB_congr (fun i hi => h i (by omega))]
theorem putB_getB : ∀ (l : List UInt8), putB (getB l) l.length = l
  | [] => rfl
  | x :: l => by
    have h1 : digit (getB (x :: l)) l.length = x := by
      apply UInt8.toNat_inj.1
      rw [digit_toNat, getB_cons, Nat.add_comm, Nat.add_mul_div_right _ _ (Nat.pow_pos (by decide)), Nat.div_eq_of_lt (getB_lt l)]
      have := x.toNat_lt
      omega
    rw [List.length_cons, putB, h1, putB_congr (b := getB l) (fun i hi => by rw [getB_cons]; exact digit_add i hi), putB_getB l]
end Esch
/- numbers as bytes: package shift -/
namespace Go.Proofs.YtdbhbdlljgaleaaGreatDoor
open Go.RowKit Esch

def StrPost (w : World) (l : List UInt8) (e : Ending) (w' : World) : Prop := e = .returned (.string ⟨l.toArray⟩) ∧ Below w.heap.size w w'
/-- a row of bytes that is being filled -/
def RowAt (w : World) (bb : Nat) (arr : Array Value) : Prop := w.heap[bb]? = some (.cells arr 5 (0, 0))
theorem RowAt.cell {w : World} {bb : Nat} {arr : Array Value} (h : RowAt w bb arr) (j : Nat) : w.cell? ⟨bb, j, none⟩ = arr[j]? := by
  unfold RowAt at h; simp [World.cell?, h]
theorem RowAt.frozen {w : World} {bb : Nat} {arr : Array Value} (h : RowAt w bb arr) (j : Nat) : w.frozen? ⟨bb, j, none⟩ = false := by
  unfold RowAt at h; simp [World.frozen?, h]
theorem RowAt.set {w : World} {bb : Nat} {arr : Array Value} (h : RowAt w bb arr) (j : Nat) (v : Value) : RowAt (w.setCell ⟨bb, j, none⟩ v) bb (arr.setIfInBounds j v) := by
  unfold RowAt at h ⊢; simp [World.setCell, Array.getElem?_modify, h]
theorem Tryz.infoByte : (Tryz.prog.info? 5).map (fun i => (i.zero, i.size, i.bytes)) = some (some (.int .u8 0), 1, 1) := by kernel_rfl
def PutRel (w : World) (v n g : Nat) (s : Value) (wr : World) : Prop :=
  ∃ (k : Nat) (arr : Array Value), g = n - k ∧ k ≤ n ∧ s = .int .i64 k ∧ RowAt wr w.heap.size arr ∧ arr.size = n ∧ (∀ j, j < k → arr[j]? = some (.int .u8 (digit v (n - 1 - j)).toNat)) ∧ Below w.heap.size w wr
set_option maxRecDepth 100000 in
set_option maxHeartbeats 1000000 in
theorem shiftPut_any (w : World) (v n : Nat) (hv : v < 18446744073709551616) (hn : n ≤ 8) :
    Calls Tryz.prog 110 #[.int .u64 v, .int .i64 n] w (StrPost w (putB v n)) := by
  have Hv := Lib.hid hv
  obtain ⟨i0, hi, hz0, hz1, hz2⟩ := info_parts Tryz.infoByte
  have hmk := run_make (P := Tryz.prog) w 112 5 i0 (.int .u8 0) Tryz.underlying112 hi hz0 .i64 .i64 n n (by omega) (Int.le_refl _) (by rw [hz2]; omega) (by omega)
  simp only [Int.toNat_natCast, hz1, Nat.mul_one] at hmk
  have hrow : RowAt (w.alloc (.cells (madeCells (Value.int .u8 0).cells n) 5)) w.heap.size (madeCells (Value.int .u8 0).cells n) := alloc_new _ _
  have hBm : Below w.heap.size w (w.alloc (.cells (madeCells (Value.int .u8 0).cells n) 5)) := by exact belC (Below.refl _ _)
  have hsz := size_madeCells (Value.int .u8 0).cells n
  clear hv hi hz0 hz1 hz2
  generalize madeCells (Value.int .u8 0).cells n = arr0 at hmk hrow hBm hsz
  generalize w.alloc (.cells arr0 5) = W1 at hmk hrow hBm
  have Hrow := Lib.hid hrow
  clear hrow
  go_enter Tryz.func110, Tryz.ntmps110
  go_wp2_with fail
  go_loopg [17] n (fun g s17 wr => PutRel w v n g s17 wr)
  case atStart => exact ⟨0, arr0, rfl, Nat.zero_le _, rfl, Hrow.out, hsz, fun j hj => absurd hj (by omega), hBm⟩
  case round =>
    obtain ⟨k, arr, rfl, hk, rfl, hr, hs, hd, hB⟩ := hrel
    have Hr := Lib.hid hr
    have Hd := Lib.hid hd
    by_cases hlt : k < n
    · have c0 := hr.cell k
      have f0 := hr.frozen k
      rw [Array.getElem?_eq_getElem (by omega)] at c0
      generalize arr[k] = old at c0
      clear hr hd hmk
      have e1 : (v : Int) / 2 ^ (8 * (n - 1 - k)) % 256 = ((digit v (n - 1 - k)).toNat : Int) := by
        rw [digit_toNat, show (256 : Nat) ^ (n - 1 - k) = 2 ^ (8 * (n - 1 - k)) from by rw [Nat.pow_mul]]
        simp only [Int.natCast_emod, Int.natCast_ediv, Int.natCast_pow]
        rfl
      have HE := Lib.hid e1
      clear e1
      go_wp2_with fail
      rw [HE.out]
      go_roundg (n - (k + 1))
      case measure => omega
      case rel =>
        refine ⟨k + 1, arr.setIfInBounds k _, rfl, by omega, by go_num, Hr.out.set k _, by rw [Array.size_setIfInBounds]; exact hs, fun j hj => ?_, hB.setCell (p := ⟨w.heap.size, k, none⟩) (Nat.le_refl _) _⟩
        rw [Array.getElem?_setIfInBounds]
        by_cases e : k = j
        · rw [if_pos e, if_pos (by omega), e]
        · rw [if_neg e]; exact Hd.out j (by omega)
    · have hkn : k = n := by omega
      subst hkn
      have hcv := run_convert_bytes_back (P := Tryz.prog) wr 112 9 5 ⟨w.heap.size, 0, none⟩ k (putB v k) Tryz.underlying112 Tryz.underlying5 Tryz.underlying9 (fun j hj => by
        rw [show (⟨w.heap.size, 0, none⟩ : Addr).add j = ⟨w.heap.size, j, none⟩ from by unfold Addr.add; split <;> simp_all]
        rw [putB_length] at hj
        rw [Hr.out.cell, Hd.out j hj]
        have := putB_get v k j hj
        rw [List.getElem?_eq_getElem (by rw [putB_length]; exact hj)] at this
        rw [Option.some.inj this])
      rw [putB_length] at hcv
      clear hr hd hmk
      go_wp2_with fail
      go_ret
      exact ⟨rfl, hB⟩

set_option maxRecDepth 100000 in
theorem or_byte (G b : Nat) (hG : G < 72057594037927936) (hb : b < 256) : bits .or .u64 (IntKind.u64.wrap ((G : Int) * 256)) (IntKind.u64.wrap (b : Int)) = ((G * 256 + b : Nat) : Int) := by
  have h1 : IntKind.u64.wrap ((G : Int) * 256) = ((G * 256 : Nat) : Int) := by
    rw [IntKind.wrap_u64]; omega
  have h2 : IntKind.u64.wrap (b : Int) = (b : Int) := by
    rw [IntKind.wrap_u64]; omega
  rw [h1, h2, bits_or_u64_nat _ _ (by omega) (by omega)]
  have := Nat.shiftLeft_add_eq_or_of_lt (b := b) (i := 8) (by simpa using hb) G
  rw [Nat.shiftLeft_eq, show (2 : Nat) ^ 8 = 256 from rfl] at this
  rw [← this]
/-- so many bytes from a place on -/
def cutB (s : ByteArray) (a n : Nat) : List UInt8 := (s.data.toList.drop a).take n
def GetPost (w : World) (s : ByteArray) (a n : Nat) (e : Ending) (w' : World) : Prop :=
  (e = .returned (if n ≤ 8 ∧ a ≤ s.size ∧ n ≤ s.size - a then .tuple #[.int .u64 (getB (cutB s a n)), .bool true] else .tuple #[.int .u64 0, .bool false])) ∧ w' = w
def GetRel (w : World) (s : ByteArray) (a n g : Nat) (sv si : Value) (wr : World) : Prop :=
  ∃ k : Nat, g = n - k ∧ k ≤ n ∧ si = .int .i64 k ∧ sv = .int .u64 (getB (cutB s a k)) ∧ wr = w
set_option maxRecDepth 100000 in
set_option maxHeartbeats 1000000 in
theorem shiftGet_any (w : World) (s : ByteArray) (hs : s.size ≤ 9223372036854775807) (a n : Nat) (ha : a ≤ 9223372036854775807) (hn : n ≤ 9223372036854775807) :
    Calls Tryz.prog 143 #[.string s, .int .i64 a, .int .i64 n] w (GetPost w s a n) := by
  by_cases h8 : n ≤ 8
  · by_cases h1 : a ≤ s.size
    · by_cases h2 : n ≤ s.size - a
      · unfold GetPost
        rw [if_pos ⟨h8, h1, h2⟩]
        go_enter Tryz.func143, Tryz.ntmps143
        go_wp2_with fail
        simp only [show decide (s.size < a) = false from decide_eq_false (by omega), Bool.or_false]
        go_loopg [8, 35] n (fun g s8 s35 wr => GetRel w s a n g s8 s35 wr)
        case atStart => exact ⟨0, rfl, Nat.zero_le _, rfl, by simp [cutB, getB], rfl⟩
        case round =>
          obtain ⟨k, rfl, hk, rfl, rfl, rfl⟩ := hrel
          by_cases hlt : k < n
          · have hG : getB (cutB s a k) < 72057594037927936 := by
              refine Nat.lt_of_lt_of_le (getB_lt _) ?_
              have : (cutB s a k).length ≤ 7 := by unfold cutB; have := List.length_take_le k (s.data.toList.drop a); omega
              exact Nat.le_trans (Nat.pow_le_pow_right (by decide) this) (by decide)
            have hcut : cutB s a (k + 1) = cutB s a k ++ [s[a + k]'(by show a + k < s.size; omega)] := by
              unfold cutB
              have hlen : k < (s.data.toList.drop a).length := by rw [List.length_drop, Array.length_toList]; show k < s.size - a; omega
              rw [List.take_succ_eq_append_getElem hlen, List.getElem_drop, Array.getElem_toList]
              rfl
            have hor := or_byte (getB (cutB s a k)) (s[a + k]'(by show a + k < s.size; omega)).toNat hG (UInt8.toNat_lt _)
            rw [← getB_snoc, ← hcut] at hor
            have Hor := Lib.hid hor
            have hak : a + k < s.size := by omega
            clear hor hcut hG h1 h2
            go_wp2_with fail
            rw [Hor.out]
            go_roundg (n - (k + 1))
            case measure => omega
            case rel => exact ⟨k + 1, rfl, by omega, by go_num, rfl, rfl⟩
          · have hkn : k = n := by omega
            subst hkn
            go_wp2_with fail
            go_ret2
            exact ⟨rfl, rfl⟩
      · unfold GetPost
        rw [if_neg (fun h => h2 h.2.2)]
        go_enter Tryz.func143, Tryz.ntmps143
        go_wp2_with fail
        go_ret2
        exact ⟨rfl, rfl⟩
    · unfold GetPost
      rw [if_neg (fun h => h1 h.2.1)]
      go_enter Tryz.func143, Tryz.ntmps143
      go_wp2_with fail
      go_ret2
      exact ⟨rfl, rfl⟩
  · unfold GetPost
    rw [if_neg (fun h => h8 h.1)]
    go_enter Tryz.func143, Tryz.ntmps143
    go_wp2_with fail
    go_ret2
    exact ⟨rfl, rfl⟩
end Go.Proofs.YtdbhbdlljgaleaaGreatDoor
/- fields that are unpacked: package pack -/
namespace Go.Proofs.YtdbhbdlljgaleaaGreatDoor
open Go.RowKit Esch

def sizedB (n : Nat) : Bool := n == 1 || n == 2 || n == 4 || n == 8
set_option maxHeartbeats 1000000 in
theorem sized_any (w : World) (n : Nat) : Calls Tryz.prog 109 #[.int .i64 n] w fun e w' => e = .returned (.bool (sizedB n)) ∧ w' = w := by
  by_cases h1 : n = 1
  · subst h1
    go_enter Tryz.func109, Tryz.ntmps109
    go_wp2_with fail
    go_ret
    exact ⟨rfl, rfl⟩
  · by_cases h2 : n = 2
    · subst h2
      go_enter Tryz.func109, Tryz.ntmps109
      go_wp2_with fail
      go_ret
      exact ⟨rfl, rfl⟩
    · by_cases h4 : n = 4
      · subst h4
        go_enter Tryz.func109, Tryz.ntmps109
        go_wp2_with fail
        go_ret
        exact ⟨rfl, rfl⟩
      · by_cases h8 : n = 8
        · subst h8
          go_enter Tryz.func109, Tryz.ntmps109
          go_wp2_with fail
          go_ret
          exact ⟨rfl, rfl⟩
        · go_enter Tryz.func109, Tryz.ntmps109
          go_wp2_with fail
          go_ret
          have e1 : ((n : Int) == 1) = false := by simp; omega
          have e2 : ((n : Int) == 2) = false := by simp; omega
          have e3 : ((n : Int) == 4) = false := by simp; omega
          have e4 : ((n : Int) == 8) = false := by simp; omega
          refine ⟨?_, rfl⟩
          rw [e1, e2, e3, e4]
          simp [sizedB, h1, h2, h4, h8]

structure UnpAt (w : World) (b : Nat) (s : ByteArray) (bad : Bool) : Prop where
  c0 : w.cell? ⟨b, 0, none⟩ = some (.string s)
  c1 : w.cell? ⟨b, 1, none⟩ = some (.bool bad)
  f0 : w.frozen? ⟨b, 0, none⟩ = false
  f1 : w.frozen? ⟨b, 1, none⟩ = false
  size : s.size ≤ 9223372036854775807
set_option maxHeartbeats 1000000 in
theorem open_any (w : World) (s : ByteArray) (hs : s.size ≤ 9223372036854775807) : Calls Tryz.prog 43 #[.string s] w fun e w' => ∃ b, e = .returned (.pointer (some ⟨b, 0, none⟩)) ∧ UnpAt w' b s false ∧ w.heap.size ≤ b ∧ Below w.heap.size w w' := by
  go_enter Tryz.func43, Tryz.ntmps43
  go_wp2_with fail
  go_ret
  exact ⟨w.heap.size, rfl, ⟨by go_simp, by go_simp, by go_simp, by go_simp, hs⟩, Nat.le_refl _, by exact belC (Below.refl _ _)⟩
set_option maxHeartbeats 1000000 in
theorem spoil_any (w : World) (b : Nat) (s : ByteArray) (bad : Bool) (h : UnpAt w b s bad) : Calls Tryz.prog 114 #[.pointer (some ⟨b, 0, none⟩)] w fun e w' => e = .returned (.tuple #[]) ∧ UnpAt w' b s true ∧ Mod (· = b) w w' := by
  obtain ⟨c0, c1, f0, f1, hs⟩ := h
  go_enter Tryz.func114, Tryz.ntmps114
  go_wp2_with fail
  go_end0
  exact ⟨rfl, ⟨by go_simp, by go_simp, by go_simp, by go_simp, hs⟩, (Mod.refl (· = b) w).setCellAt (fun _ => rfl) _⟩
set_option maxHeartbeats 1000000 in
theorem take_bad (w : World) (b : Nat) (s : ByteArray) (bad : Bool) (n : Nat) (h : UnpAt w b s bad) (hb : bad = true ∨ s.size < n) : Calls Tryz.prog 115 #[.pointer (some ⟨b, 0, none⟩), .int .i64 n] w fun e w' => e = .returned (.tuple #[.string ⟨#[]⟩, .bool false]) ∧ UnpAt w' b s true ∧ Mod (· = b) w w' := by
  have hsp := spoil_any w b s bad h
  obtain ⟨c0, c1, f0, f1, hs⟩ := h
  cases bad
  · have hb' : s.size < n := by simpa using hb
    clear hb
    go_enter Tryz.func115, Tryz.ntmps115
    go_wp2_with fail
    refine hsp.mono ?_
    clear hsp
    rintro e w1 ⟨rfl, hU, hM⟩
    go_wp2_with fail
    go_ret2
    exact ⟨rfl, hU, hM⟩
  · clear hb
    go_enter Tryz.func115, Tryz.ntmps115
    go_wp2_with fail
    refine hsp.mono ?_
    clear hsp
    rintro e w1 ⟨rfl, hU, hM⟩
    go_wp2_with fail
    go_ret2
    exact ⟨rfl, hU, hM⟩
set_option maxHeartbeats 1000000 in
theorem take_ok (w : World) (b : Nat) (s : ByteArray) (n : Nat) (h : UnpAt w b s false) (hb : n ≤ s.size) : Calls Tryz.prog 115 #[.pointer (some ⟨b, 0, none⟩), .int .i64 n] w fun e w' => e = .returned (.tuple #[.string (s.extract 0 n), .bool true]) ∧ UnpAt w' b (s.extract n s.size) false ∧ Mod (· = b) w w' := by
  obtain ⟨c0, c1, f0, f1, hs⟩ := h
  go_enter Tryz.func115, Tryz.ntmps115
  go_wp2_with fail
  go_ret2
  exact ⟨rfl, ⟨by go_simp, by go_simp, by go_simp, by go_simp, by rw [ByteArray.size_extract]; omega⟩, (Mod.refl (· = b) w).setCellAt (fun _ => rfl) _⟩
/-- the next number of so many bytes -/
def unNum (s : ByteArray) (bad : Bool) (n : Nat) : Nat × ByteArray × Bool :=
  if bad = true ∨ s.size < n then (0, s, true) else if 9223372036854775808 ≤ getB (cutB s 0 n) then (0, s.extract n s.size, true) else (getB (cutB s 0 n), s.extract n s.size, false)
theorem cutB_extract (s : ByteArray) (n : Nat) : cutB (s.extract 0 n) 0 n = cutB s 0 n := by
  simp [cutB, ByteArray.data_extract, List.take_take]
theorem extract_size (s : ByteArray) (n : Nat) (h : n ≤ s.size) : (s.extract 0 n).size = n := by rw [ByteArray.size_extract]; omega
def NumPost (w : World) (b : Nat) (r : Nat × ByteArray × Bool) (e : Ending) (w' : World) : Prop := e = .returned (.int .i64 r.1) ∧ UnpAt w' b r.2.1 r.2.2 ∧ Mod (· = b) w w'
set_option maxRecDepth 100000 in
set_option maxHeartbeats 1000000 in
theorem unNum_any (w : World) (b : Nat) (s : ByteArray) (bad : Bool) (n : Nat) (hn : sizedB n = true) (h : UnpAt w b s bad) :
    Calls Tryz.prog 113 #[.pointer (some ⟨b, 0, none⟩), .int .i64 n] w (NumPost w b (unNum s bad n)) := by
  have hsz := sized_any w n
  rw [hn] at hsz
  have h8 : n ≤ 8 := by simp only [sizedB, Bool.or_eq_true, beq_iff_eq] at hn; omega
  clear hn
  by_cases hb : bad = true ∨ s.size < n
  · have htk := take_bad w b s bad n h hb
    rw [show unNum s bad n = (0, s, true) from if_pos hb]
    clear hb h
    go_enter Tryz.func113, Tryz.ntmps113
    go_wp2_with fail
    refine hsz.mono ?_
    clear hsz
    rintro e w0 ⟨rfl, rfl⟩
    go_wp2_with fail
    refine htk.mono ?_
    clear htk
    rintro e w1 ⟨rfl, hU, hM⟩
    have hg := shiftGet_any w1 ⟨#[]⟩ (by decide) 0 0 (by decide) (by decide)
    unfold GetPost at hg
    rw [if_pos ⟨by decide, by decide, by decide⟩] at hg
    have hsp := spoil_any w1 b s true hU
    go_wp2_with fail
    refine hg.mono ?_
    clear hg
    rintro e w2 ⟨rfl, rfl⟩
    go_wp2_with fail
    refine hsp.mono ?_
    clear hsp
    rintro e w3 ⟨rfl, hU3, hM3⟩
    go_wp2_with fail
    go_ret
    exact ⟨rfl, hU3, hM.trans hM3⟩
  · obtain rfl : bad = false := by cases bad; rfl; exact absurd (Or.inl rfl) hb
    have hle : n ≤ s.size := by have := fun h => hb (Or.inr h); omega
    have htk := take_ok w b s n h hle
    have hex := extract_size s n hle
    have hcu := cutB_extract s n
    have hgg := fun W => shiftGet_any W (s.extract 0 n) (by omega) 0 n (by omega) (by omega)
    unfold GetPost at hgg
    rw [if_pos ⟨h8, by omega, by omega⟩, hcu] at hgg
    have hlt : getB (cutB s 0 n) < 18446744073709551616 := by
      refine Nat.lt_of_lt_of_le (getB_lt _) ?_
      have : (cutB s 0 n).length ≤ 8 := by unfold cutB; have := List.length_take_le n (s.data.toList.drop 0); omega
      exact Nat.le_trans (Nat.pow_le_pow_right (by decide) this) (by decide)
    unfold unNum
    rw [if_neg hb]
    generalize getB (cutB s 0 n) = v at hgg hlt ⊢
    generalize s.extract 0 n = s0 at htk hgg hex
    clear hb h hcu hle
    by_cases hv : 9223372036854775808 ≤ v
    · rw [if_pos hv]
      have Hv := Lib.hid hv
      have Hlt := Lib.hid hlt
      have hq : (v : Int) / 9223372036854775808 = 1 := by omega
      clear hv hlt
      go_enter Tryz.func113, Tryz.ntmps113
      go_wp2_with fail
      refine hsz.mono ?_
      clear hsz
      rintro e w0 ⟨rfl, rfl⟩
      go_wp2_with fail
      refine htk.mono ?_
      clear htk
      rintro e w1 ⟨rfl, hU, hM⟩
      have hg := hgg w1
      have hsp := spoil_any w1 b _ _ hU
      go_wp2_with fail
      refine hg.mono ?_
      clear hg
      rintro e w2 ⟨rfl, rfl⟩
      go_wp2_with fail
      refine hsp.mono ?_
      clear hsp
      rintro e w3 ⟨rfl, hU3, hM3⟩
      go_wp2_with fail
      go_ret
      exact ⟨rfl, hU3, hM.trans hM3⟩
    · rw [if_neg hv]
      have hv' : v < 9223372036854775808 := by omega
      have Hlt := Lib.hid hlt
      have Hv := Lib.hid hv'
      have hq : (v : Int) / 9223372036854775808 = 0 := by omega
      clear hv hlt hv'
      go_enter Tryz.func113, Tryz.ntmps113
      go_wp2_with fail
      refine hsz.mono ?_
      clear hsz
      rintro e w0 ⟨rfl, rfl⟩
      go_wp2_with fail
      refine htk.mono ?_
      clear htk
      rintro e w1 ⟨rfl, hU, hM⟩
      have hg := hgg w1
      go_wp2_with fail
      refine hg.mono ?_
      clear hg
      rintro e w2 ⟨rfl, rfl⟩
      go_wp2_with fail
      go_ret
      exact ⟨rfl, hU, hM⟩
set_option maxHeartbeats 1000000 in
theorem unEnd_any (w : World) (b : Nat) (s : ByteArray) (bad : Bool) (h : UnpAt w b s bad) :
    Calls Tryz.prog 45 #[.pointer (some ⟨b, 0, none⟩)] w fun e w' => e = .returned (.int .i64 (if bad = true ∨ 0 < s.size then 11 else 0)) ∧ w' = w := by
  obtain ⟨c0, c1, f0, f1, hs⟩ := h
  cases bad
  · by_cases h0 : 0 < s.size
    · rw [if_pos (Or.inr h0)]
      go_enter Tryz.func45, Tryz.ntmps45
      go_wp2_with fail
      go_ret
      exact ⟨rfl, rfl⟩
    · rw [if_neg (fun h => h.elim (fun e => by cases e) h0)]
      have h0' : s.size = 0 := by omega
      go_enter Tryz.func45, Tryz.ntmps45
      go_wp2_with fail
      go_ret
      exact ⟨rfl, rfl⟩
  · rw [if_pos (Or.inl rfl)]
    go_enter Tryz.func45, Tryz.ntmps45
    go_wp2_with fail
    go_ret
    exact ⟨rfl, rfl⟩
end Go.Proofs.YtdbhbdlljgaleaaGreatDoor
/- package pack: Text, Left, of an unpacker -/
namespace Esch
/-- the text of a number of bytes, and what is left -/
def unTake (s : ByteArray) (bad : Bool) (n : Nat) : ByteArray × ByteArray × Bool := if bad = true ∨ s.size < n then (⟨#[]⟩, s, true) else (s.extract 0 n, s.extract n s.size, false)
end Esch
namespace Go.Proofs.YtdbhbdlljgaleaaGreatDoor
open Go.RowKit Esch

set_option maxHeartbeats 1000000 in
theorem unLeft_any (w : World) (b : Nat) (s : ByteArray) (bad : Bool) (h : UnpAt w b s bad) :
    Calls Tryz.prog 112 #[.pointer (some ⟨b, 0, none⟩)] w fun e w' => e = .returned (.int .i64 (if bad = true then 0 else s.size)) ∧ w' = w := by
  obtain ⟨c0, c1, f0, f1, hs⟩ := h
  cases bad
  · rw [if_neg (by simp)]
    go_enter Tryz.func112, Tryz.ntmps112
    go_wp2_with fail
    go_ret
    exact ⟨rfl, rfl⟩
  · rw [if_pos rfl]
    go_enter Tryz.func112, Tryz.ntmps112
    go_wp2_with fail
    go_ret
    exact ⟨rfl, rfl⟩
/-- the next text, of at most so many bytes -/
def unText (s : ByteArray) (bad : Bool) (most : Nat) : ByteArray × ByteArray × Bool := unTake (unNum s bad 2).2.1 ((unNum s bad 2).2.2 || decide (most < (unNum s bad 2).1)) (unNum s bad 2).1
def TakePost (w : World) (b : Nat) (r : ByteArray × ByteArray × Bool) (e : Ending) (w' : World) : Prop := (∃ ok, e = .returned (.tuple #[.string r.1, .bool ok])) ∧ UnpAt w' b r.2.1 r.2.2 ∧ Mod (· = b) w w'
theorem take_any (w : World) (b : Nat) (s : ByteArray) (bad : Bool) (n : Nat) (h : UnpAt w b s bad) : Calls Tryz.prog 115 #[.pointer (some ⟨b, 0, none⟩), .int .i64 n] w (TakePost w b (unTake s bad n)) := by
  unfold unTake
  split
  · rename_i hb
    exact (take_bad w b s bad n h hb).mono fun e w' ⟨h1, h2, h3⟩ => ⟨⟨_, h1⟩, h2, h3⟩
  · rename_i hb
    obtain rfl : bad = false := by cases bad <;> simp_all
    exact (take_ok w b s n h (by simp at hb; omega)).mono fun e w' ⟨h1, h2, h3⟩ => ⟨⟨_, h1⟩, h2, h3⟩
def TextPost (w : World) (b : Nat) (r : ByteArray × ByteArray × Bool) (e : Ending) (w' : World) : Prop := e = .returned (.string r.1) ∧ UnpAt w' b r.2.1 r.2.2 ∧ Mod (· = b) w w'
set_option maxHeartbeats 1000000 in
theorem unText_any (w : World) (b : Nat) (s : ByteArray) (bad : Bool) (most : Nat) (h : UnpAt w b s bad) :
    Calls Tryz.prog 78 #[.pointer (some ⟨b, 0, none⟩), .int .i64 most] w (TextPost w b (unText s bad most)) := by
  have hn := unNum_any w b s bad 2 rfl h
  unfold unText
  obtain ⟨r, hr⟩ : ∃ r, r = unNum s bad 2 := ⟨_, rfl⟩
  rw [← hr] at hn ⊢
  obtain ⟨v, s1, bad1⟩ := r
  simp only
  clear hr h
  by_cases hm : most < v
  · have hq : ((most : Int) < v) = True := by simpa using hm
    have htk : ∀ W, UnpAt W b s1 true → Calls Tryz.prog 115 #[.pointer (some ⟨b, 0, none⟩), .int .i64 v] W (TakePost W b (unTake s1 (bad1 || decide (most < v)) v)) := fun W hW => by
      have : (bad1 || decide (most < v)) = true := by simp [hm]
      rw [this]
      exact take_any W b s1 true v hW
    generalize unTake s1 (bad1 || decide (most < v)) v = r at htk ⊢
    have hmI : (most : Int) < v := by omega
    clear hq hm
    go_enter Tryz.func78, Tryz.ntmps78
    go_wp2_with fail
    refine hn.mono ?_
    clear hn
    rintro e w1 ⟨rfl, hU, hM⟩
    go_wp2_with fail
    refine (spoil_any w1 b s1 bad1 hU).mono ?_
    rintro e w2 ⟨rfl, hU2, hM2⟩
    go_wp2_with fail
    refine (htk w2 hU2).mono ?_
    clear htk
    rintro e w3 ⟨⟨ok, rfl⟩, hU3, hM3⟩
    go_wp2_with fail
    go_ret
    exact ⟨rfl, hU3, (hM.trans hM2).trans hM3⟩
  · have htk : ∀ W, UnpAt W b s1 bad1 → Calls Tryz.prog 115 #[.pointer (some ⟨b, 0, none⟩), .int .i64 v] W (TakePost W b (unTake s1 (bad1 || decide (most < v)) v)) := fun W hW => by
      have : (bad1 || decide (most < v)) = bad1 := by simp [hm]
      rw [this]
      exact take_any W b s1 bad1 v hW
    generalize unTake s1 (bad1 || decide (most < v)) v = r at htk ⊢
    have hmI : ¬ (most : Int) < v := by omega
    clear hm
    go_enter Tryz.func78, Tryz.ntmps78
    go_wp2_with fail
    refine hn.mono ?_
    clear hn
    rintro e w1 ⟨rfl, hU, hM⟩
    go_wp2_with fail
    refine (htk w1 hU).mono ?_
    clear htk
    rintro e w3 ⟨⟨ok, rfl⟩, hU3, hM3⟩
    go_wp2_with fail
    go_ret
    exact ⟨rfl, hU3, hM.trans hM3⟩
end Go.Proofs.YtdbhbdlljgaleaaGreatDoor
/- paths and names, plain: a name is a list of bytes -/
namespace Esch
open Go

abbrev Nm := List UInt8
def bs (l : Nm) : ByteArray := ⟨l.toArray⟩
theorem bs_data (s : ByteArray) : bs s.data.toList = s := rfl
theorem bs_list (l : Nm) : (bs l).data.toList = l := rfl
@[simp] theorem bs_size (l : Nm) : (bs l).size = l.length := rfl
theorem bs_inj {a b : Nm} (h : bs a = bs b) : a = b := by rw [← bs_list a, ← bs_list b, h]
theorem bs_extract (l : Nm) (i j : Nat) : (bs l).extract i j = bs ((l.drop i).take (j - i)) := by
  apply ByteArray.ext
  simp only [ByteArray.data_extract, bs]
  apply Array.toList_inj.1
  simp [List.extract_eq_take_drop]
theorem bs_append (a b : Nm) : bs a ++ bs b = bs (a ++ b) := by
  apply ByteArray.ext
  simp [bs, ByteArray.data_append]
def okc (c : UInt8) : Bool := (97 ≤ c && c ≤ 122) || (48 ≤ c && c ≤ 57) || c == 95
def nameL (l : Nm) : Bool := decide (1 ≤ l.length) && decide (l.length ≤ 8) && l.all okc
theorem nameL_len {l : Nm} (h : nameL l = true) : 1 ≤ l.length ∧ l.length ≤ 8 ∧ l.all okc = true := by
  simpa [nameL, and_assoc] using h
theorem nameL_no {l : Nm} (h : nameL l = true) : ∀ c ∈ l, c ≠ 47 := by
  intro c hc e
  have := List.all_eq_true.1 (nameL_len h).2.2 c hc
  subst e
  exact absurd this (by decide)
def namesD : Nat → Nm → Option (List Nm)
  | 0, _ => none
  | _ + 1, [] => none
  | d + 1, c :: r => if c = 47 ∧ nameL (r.takeWhile (· != 47)) = true then
      if r.dropWhile (· != 47) = [] then some [r.takeWhile (· != 47)] else (namesD d (r.dropWhile (· != 47))).map (r.takeWhile (· != 47) :: ·)
    else none
theorem namesD_cons (d : Nat) (c : UInt8) (r : Nm) : namesD (d + 1) (c :: r) = if c = 47 ∧ nameL (r.takeWhile (· != 47)) = true then
      if r.dropWhile (· != 47) = [] then some [r.takeWhile (· != 47)] else (namesD d (r.dropWhile (· != 47))).map (r.takeWhile (· != 47) :: ·)
    else none := rfl
def namesOf (p : Nm) : Option (List Nm) := if p = [47] then some [] else namesD 8 p
def pathT (l : List Nm) : Nm := l.flatMap (47 :: ·)
def pathL (l : List Nm) : Nm := if l = [] then [47] else pathT l
theorem tw_app {a r : Nm} (ha : ∀ c ∈ a, c ≠ 47) (hr : r = [] ∨ ∃ r', r = 47 :: r') : (a ++ r).takeWhile (· != 47) = a ∧ (a ++ r).dropWhile (· != 47) = r := by
  induction a with
  | nil => rcases hr with rfl | ⟨r', rfl⟩ <;> simp
  | cons x a ih =>
    have hx : (x != 47) = true := by simpa using ha x (by simp)
    obtain ⟨i1, i2⟩ := ih fun c hc => ha c (by simp [hc])
    simp only [List.cons_append, List.takeWhile_cons, List.dropWhile_cons, hx, if_true]
    exact ⟨by rw [i1], i2⟩
theorem pathT_head (l : List Nm) : pathT l = [] ∨ ∃ r, pathT l = 47 :: r := by
  cases l with
  | nil => exact Or.inl rfl
  | cons a l => exact Or.inr ⟨_, rfl⟩
theorem namesD_path : ∀ (d : Nat) (l : List Nm), l ≠ [] → l.length ≤ d → (∀ a ∈ l, nameL a = true) → namesD d (pathT l) = some l
  | 0, [], h, _, _ => absurd rfl h
  | 0, _ :: _, _, h, _ => by simp at h
  | d + 1, [], h, _, _ => absurd rfl h
  | d + 1, a :: l, _, h, hn => by
    have ha := hn a (by simp)
    show namesD (d + 1) (47 :: (a ++ pathT l)) = _
    obtain ⟨t1, t2⟩ := tw_app (r := pathT l) (nameL_no ha) (pathT_head l)
    unfold namesD
    rw [t1, t2, if_pos ⟨rfl, ha⟩]
    cases l with
    | nil => rfl
    | cons b l =>
      rw [if_neg (by simp [pathT]), namesD_path d (b :: l) (by simp) (by simpa using h) fun x hx => hn x (List.mem_cons_of_mem _ hx)]
      rfl
theorem namesD_some : ∀ (d : Nat) (p : Nm) (l : List Nm), namesD d p = some l → l ≠ [] ∧ l.length ≤ d ∧ (∀ a ∈ l, nameL a = true) ∧ p = pathT l
  | 0, _, _, h => by simp [namesD] at h
  | d + 1, [], _, h => by simp [namesD] at h
  | d + 1, c :: r, l, h => by
    unfold namesD at h
    by_cases hc : c = 47 ∧ nameL (r.takeWhile (· != 47)) = true
    · rw [if_pos hc] at h
      obtain ⟨rfl, hn⟩ := hc
      have e := List.takeWhile_append_dropWhile (p := (· != 47)) (l := r)
      by_cases hd : r.dropWhile (· != 47) = []
      · rw [if_pos hd] at h
        obtain rfl := Option.some.inj h
        refine ⟨by simp, by simp, by simpa using hn, ?_⟩
        rw [hd, List.append_nil] at e
        simp only [pathT, List.flatMap_cons, List.flatMap_nil, List.append_nil, e]
      · rw [if_neg hd] at h
        obtain ⟨l', hl', rfl⟩ := Option.map_eq_some_iff.1 h
        obtain ⟨i1, i2, i3, i4⟩ := namesD_some d _ l' hl'
        refine ⟨by simp, by simpa using i2, ?_, ?_⟩
        · intro a ha
          rcases List.mem_cons.1 ha with rfl | ha
          · exact hn
          · exact i3 a ha
        · show 47 :: r = 47 :: (_ ++ pathT l')
          rw [← i4, e]
    · rw [if_neg hc] at h; cases h
theorem namesOf_path {l : List Nm} (h : l.length ≤ 8) (hn : ∀ a ∈ l, nameL a = true) : namesOf (pathL l) = some l := by
  unfold namesOf pathL
  by_cases e : l = []
  · subst e; rfl
  · rw [if_neg e, if_neg, namesD_path 8 l e h hn]
    intro e2
    cases l with
    | nil => exact e rfl
    | cons a l =>
      have ha := nameL_len (hn a (by simp))
      have : (pathT (a :: l)).length = 1 := by rw [e2]; rfl
      simp only [pathT, List.flatMap_cons, List.length_append, List.length_cons] at this
      omega
theorem namesOf_some {p : Nm} {l : List Nm} (h : namesOf p = some l) : l.length ≤ 8 ∧ (∀ a ∈ l, nameL a = true) ∧ p = pathL l := by
  unfold namesOf at h
  by_cases e : p = [47]
  · rw [if_pos e] at h
    obtain rfl := Option.some.inj h
    exact ⟨by simp, by simp, e⟩
  · rw [if_neg e] at h
    obtain ⟨h1, h2, h3, h4⟩ := namesD_some 8 p l h
    exact ⟨h2, h3, by rw [h4, pathL, if_neg h1]⟩
/-- the round of the loop: l are the names that were met -/
def namesFrom (l : List Nm) (t : Nm) : Option (List Nm) := (namesD (8 - l.length) t).map (l ++ ·)
theorem namesFrom_nil (l : List Nm) : namesFrom l [] = none := by
  unfold namesFrom
  cases 8 - l.length <;> rfl
theorem namesFrom_cons (l : List Nm) (c : UInt8) (r : Nm) : namesFrom l (c :: r) =
    if c ≠ 47 ∨ 8 ≤ l.length then none else if nameL (r.takeWhile (· != 47)) = true then
      if r.dropWhile (· != 47) = [] then some (l ++ [r.takeWhile (· != 47)]) else namesFrom (l ++ [r.takeWhile (· != 47)]) (r.dropWhile (· != 47))
    else none := by
  unfold namesFrom
  by_cases h8 : 8 ≤ l.length
  · rw [if_pos (Or.inr h8), show 8 - l.length = 0 by omega]; rfl
  · obtain ⟨d, hd⟩ : ∃ d, 8 - l.length = d + 1 := ⟨7 - l.length, by omega⟩
    have hd' : 8 - (l ++ [r.takeWhile (· != 47)]).length = d := by simp; omega
    rw [hd, hd', namesD_cons]
    by_cases hc : c = 47
    · have e0 : ¬ (c ≠ 47 ∨ 8 ≤ l.length) := fun h => h.elim (fun h => h hc) h8
      rw [if_neg e0]
      by_cases hn : nameL (r.takeWhile (· != 47)) = true
      · rw [if_pos hn, if_pos (show c = 47 ∧ nameL (r.takeWhile (· != 47)) = true from ⟨hc, hn⟩)]
        split
        · rfl
        · simp [Option.map_map, Function.comp_def]
      · rw [if_neg hn, if_neg (show ¬ (c = 47 ∧ nameL (r.takeWhile (· != 47)) = true) from fun h => hn h.2)]; rfl
    · rw [if_pos (show c ≠ 47 ∨ 8 ≤ l.length from Or.inl hc), if_neg (show ¬ (c = 47 ∧ nameL (r.takeWhile (· != 47)) = true) from fun h => hc h.1)]; rfl
theorem firstIdx_bs (t : Nm) : firstIdx (bs t) 47 = if t.dropWhile (· != 47) = [] then -1 else ((t.takeWhile (· != 47)).length : Int) := by
  have key : ∀ (t pre : Nm), ((List.range' pre.length t.length).find? fun i => (bs (pre ++ t))[i]! == 47) = if t.dropWhile (· != 47) = [] then none else some (pre.length + (t.takeWhile (· != 47)).length) := by
    intro t
    induction t with
    | nil => intro pre; rfl
    | cons c t ih =>
      intro pre
      have hc : (bs (pre ++ c :: t))[pre.length]! = c := by
        rw [getElem!_pos (bs (pre ++ c :: t)) pre.length (by simp)]
        show (pre ++ c :: t).toArray[pre.length]'(by simp) = c
        simp
      rw [List.length_cons, List.range'_succ, List.find?_cons, hc]
      by_cases h : c = 47
      · subst h; simp
      · have h1 : (c == 47) = false := by simpa using h
        have h2 : (c != 47) = true := by simpa using h
        have := ih (pre ++ [c])
        simp only [List.append_assoc, List.singleton_append, List.length_append, List.length_singleton] at this
        simp only [h1, List.takeWhile_cons, List.dropWhile_cons, h2, if_true]
        rw [this]
        split
        · rfl
        · simp; omega
  have := key t []
  simp only [List.nil_append, List.length_nil, Nat.zero_add] at this
  unfold firstIdx
  rw [show (bs t).size = t.length from rfl, List.range_eq_range', this]
  by_cases e : t.dropWhile (· != 47) = []
  · rw [if_pos e, if_pos e]
  · rw [if_neg e, if_neg e]
end Esch
