import Derived.Lib.Hide
/- projections, in plain Lean: units, which is good, which may come next -/
namespace Esch

/-- a unit is put into a rising list -/
def insU (u : Int) : List Int → List Int
  | [] => [u]
  | x :: l => if x < u then x :: insU u l else if x = u then x :: l else u :: x :: l
/-- all units, rising, each once -/
def unitsOf (us : List Int) : List Int := us.foldl (fun l u => insU u l) []

theorem mem_insU {u x : Int} {l : List Int} : x ∈ insU u l ↔ x = u ∨ x ∈ l := by
  induction l with
  | nil => simp [insU]
  | cons a l ih =>
    unfold insU
    split
    · simp only [List.mem_cons, ih]; grind
    · split
      · subst_vars; simp
      · simp
theorem rising_insU {u : Int} {l : List Int} (h : l.Pairwise (· < ·)) : (insU u l).Pairwise (· < ·) := by
  induction l with
  | nil => simp [insU]
  | cons a l ih =>
    obtain ⟨h1, h2⟩ := List.pairwise_cons.1 h
    unfold insU
    split
    · refine List.pairwise_cons.2 ⟨fun x hx => ?_, ih h2⟩
      rcases mem_insU.1 hx with rfl | hx
      · assumption
      · exact h1 x hx
    · split
      · exact h
      · refine List.pairwise_cons.2 ⟨fun x hx => ?_, h⟩
        rcases List.mem_cons.1 hx with rfl | hx
        · omega
        · have := h1 x hx; omega
theorem mem_foldU {x : Int} : ∀ {us l : List Int}, x ∈ us.foldl (fun l u => insU u l) l ↔ x ∈ us ∨ x ∈ l
  | [], l => by simp
  | u :: us, l => by
    simp only [List.foldl_cons, List.mem_cons]
    rw [mem_foldU, mem_insU]; grind
theorem rising_foldU : ∀ {us l : List Int}, l.Pairwise (· < ·) → (us.foldl (fun l u => insU u l) l).Pairwise (· < ·)
  | [], l, h => h
  | u :: us, l, h => by simp only [List.foldl_cons]; exact rising_foldU (rising_insU h)
theorem mem_unitsOf {x : Int} {us : List Int} : x ∈ unitsOf us ↔ x ∈ us := by simp [unitsOf, mem_foldU]
theorem rising_unitsOf (us : List Int) : (unitsOf us).Pairwise (· < ·) := rising_foldU List.Pairwise.nil
theorem rising_ext : ∀ {l l' : List Int}, l.Pairwise (· < ·) → l'.Pairwise (· < ·) → (∀ x, x ∈ l ↔ x ∈ l') → l = l'
  | [], [], _, _, _ => rfl
  | [], a :: l', _, _, h => by have := (h a).2 (by simp); simp at this
  | a :: l, [], _, _, h => by have := (h a).1 (by simp); simp at this
  | a :: l, b :: l', h1, h2, h => by
    obtain ⟨p1, p2⟩ := List.pairwise_cons.1 h1
    obtain ⟨q1, q2⟩ := List.pairwise_cons.1 h2
    have hab : a = b := by
      have ha := (h a).1 (by simp)
      have hb := (h b).2 (by simp)
      rcases List.mem_cons.1 ha with e | ha
      · exact e
      · rcases List.mem_cons.1 hb with e | hb
        · exact e.symm
        · have := p1 b hb; have := q1 a ha; omega
    subst hab
    congr 1
    refine rising_ext p2 q2 fun x => ?_
    have := h x
    simp only [List.mem_cons] at this
    constructor
    · intro hx
      rcases this.1 (Or.inr hx) with rfl | hx'
      · exact absurd (p1 _ hx) (by omega)
      · exact hx'
    · intro hx
      rcases this.2 (Or.inr hx) with rfl | hx'
      · exact absurd (q1 _ hx) (by omega)
      · exact hx'
/-- whatever is rising and has just these units is it -/
theorem eq_unitsOf {l us : List Int} (h : l.Pairwise (· < ·)) (hm : ∀ x, x ∈ l ↔ x ∈ us) : l = unitsOf us := rising_ext h (rising_unitsOf us) fun x => by rw [hm, mem_unitsOf]
theorem unitsOf_congr {us vs : List Int} (h : ∀ x, x ∈ us ↔ x ∈ vs) : unitsOf us = unitsOf vs := eq_unitsOf (rising_unitsOf us) fun x => by rw [mem_unitsOf, h]
theorem length_insU (u : Int) {l : List Int} (h : l.Pairwise (· < ·)) : (insU u l).length = l.length + if u ∈ l then 0 else 1 := by
  induction l with
  | nil => simp [insU]
  | cons a l ih =>
    obtain ⟨h1, h2⟩ := List.pairwise_cons.1 h
    unfold insU
    split
    · rename_i ha
      rw [List.length_cons, ih h2, List.length_cons]
      have : u ≠ a := by omega
      simp only [List.mem_cons, this, false_or]; omega
    · split
      · rename_i e; subst e; simp
      · rename_i h3 h4
        have : u ∉ a :: l := by
          simp only [List.mem_cons, not_or]
          exact ⟨fun e => h4 e.symm, fun hm => by have := h1 u hm; omega⟩
        simp [this]
theorem length_foldU : ∀ {us l : List Int}, l.Pairwise (· < ·) → (us.foldl (fun l u => insU u l) l).length ≤ l.length + us.length ∧ ((us.foldl (fun l u => insU u l) l).length = l.length + us.length ↔ us.Nodup ∧ ∀ x ∈ us, x ∉ l)
  | [], l, _ => by simp
  | u :: us, l, h => by
    simp only [List.foldl_cons, List.length_cons, List.nodup_cons, List.mem_cons, forall_eq_or_imp]
    obtain ⟨h1, h2⟩ := length_foldU (us := us) (rising_insU (u := u) h)
    have h3 := length_insU u h
    by_cases hu : u ∈ l
    · simp only [hu, if_true] at h3
      refine ⟨by omega, ⟨fun e => by omega, fun e => absurd hu e.2.1⟩⟩
    · simp only [hu, if_false] at h3
      refine ⟨by omega, ?_⟩
      rw [show l.length + (us.length + 1) = (insU u l).length + us.length by omega, h2]
      constructor
      · rintro ⟨a, b⟩
        exact ⟨⟨fun hm => b u hm (mem_insU.2 (Or.inl rfl)), a⟩, hu, fun x hx hl => b x hx (mem_insU.2 (Or.inr hl))⟩
      · rintro ⟨⟨a, b⟩, -, c⟩
        refine ⟨b, fun x hx hm => ?_⟩
        rcases mem_insU.1 hm with rfl | hm
        · exact a hx
        · exact c x hx hm
theorem length_unitsOf (us : List Int) : (unitsOf us).length ≤ us.length := by have := (length_foldU (us := us) List.Pairwise.nil).1; simpa [unitsOf] using this
theorem length_unitsOf_iff (us : List Int) : (unitsOf us).length = us.length ↔ us.Nodup := by
  have := (length_foldU (us := us) List.Pairwise.nil).2
  simpa [unitsOf] using this
theorem unitsOf_snoc (us : List Int) (u : Int) : unitsOf (us ++ [u]) = insU u (unitsOf us) := by simp [unitsOf]

/-- a projection -/
structure Proj where
  epoch : Int
  chains : List (List Int)
  deriving DecidableEq
instance : Inhabited Proj := ⟨⟨0, []⟩⟩
def Proj.units (p : Proj) : List Int := p.chains.flatten
def Proj.good (p : Proj) : Prop := 0 ≤ p.epoch ∧ p.epoch ≤ 2147483647 ∧ 1 ≤ p.chains.length ∧ p.chains.length ≤ 4 ∧ (∀ c ∈ p.chains, 1 ≤ c.length ∧ c.length ≤ 4) ∧ (∀ u ∈ p.units, 0 ≤ u ∧ u ≤ 15) ∧ p.units.Nodup
instance (p : Proj) : Decidable p.good := by unfold Proj.good; infer_instance
def goodB (p : Proj) : Bool := decide p.good

/-- where a unit stands first -/
def posOf (x : Int) : List Int → Option Nat
  | [] => none
  | a :: l => if a = x then some 0 else (posOf x l).map (· + 1)
/-- how many units stand in the elder chain, one behind the other -/
def heads : List Int → List Int → Nat
  | _, [] => 0
  | old, x :: c => match posOf x old with
    | none => 0
    | some k => heads (old.drop (k + 1)) c + 1
/-- does a chain fit behind another? -/
def chainNext (old all c : List Int) : Prop := heads old c ≠ 0 ∧ ∀ u ∈ c.drop (heads old c), u ∉ all
instance (old all c : List Int) : Decidable (chainNext old all c) := by unfold chainNext; infer_instance
def Proj.next (p q : Proj) : Prop := p.good ∧ q.good ∧ q.epoch = p.epoch + 1 ∧ q.chains.length = p.chains.length ∧ ∀ i, i < q.chains.length → chainNext (p.chains.getD i []) p.units (q.chains.getD i [])
instance (p q : Proj) : Decidable (p.next q) := by unfold Proj.next; infer_instance
def nextB (p q : Proj) : Bool := decide (p.next q)

theorem posOf_none {x : Int} {l : List Int} : posOf x l = none ↔ x ∉ l := by
  induction l with
  | nil => simp [posOf]
  | cons a l ih =>
    unfold posOf
    split
    · subst_vars; simp
    · rename_i h; simp only [Option.map_eq_none_iff, ih, List.mem_cons, not_or]; exact ⟨fun h' => ⟨fun e => h e.symm, h'⟩, fun h' => h'.2⟩
theorem posOf_some {x : Int} {l : List Int} {k : Nat} (h : posOf x l = some k) : k < l.length ∧ l[k]? = some x ∧ ∀ j, j < k → l[j]? ≠ some x := by
  induction l generalizing k with
  | nil => simp [posOf] at h
  | cons a l ih =>
    unfold posOf at h
    split at h
    · cases h; subst_vars; simp
    · rename_i hne
      obtain ⟨j, hj, rfl⟩ := Option.map_eq_some_iff.1 h
      obtain ⟨h1, h2, h3⟩ := ih hj
      refine ⟨by simp; omega, by simpa using h2, fun i hi => ?_⟩
      cases i with
      | zero => simpa using hne
      | succ i => simpa using h3 i (by omega)
theorem heads_le (old c : List Int) : heads old c ≤ c.length := by
  induction c generalizing old with
  | nil => simp [heads]
  | cons x c ih =>
    unfold heads
    split
    · simp
    · rename_i k _; simp only [List.length_cons]; have := ih (old.drop (k + 1)); omega
theorem heads_nil (old : List Int) : heads old [] = 0 := by cases old <;> rfl
theorem heads_some {x : Int} {old c : List Int} {k : Nat} (h : posOf x old = some k) : heads old (x :: c) = heads (old.drop (k + 1)) c + 1 := by
  rw [heads, h]
theorem heads_none {x : Int} {old c : List Int} (h : posOf x old = none) : heads old (x :: c) = 0 := by
  rw [heads, h]
theorem drop_at {l : List Int} {k : Nat} (h : k < l.length) : l.drop k = l.getD k 0 :: l.drop (k + 1) := by
  rw [List.drop_eq_getElem_cons h, List.getD_eq_getElem?_getD, List.getElem?_eq_getElem h, Option.getD_some]

/-- on the way through a chain -/
def HeadsAt (old c : List Int) (n at' : Nat) : Prop := n ≤ c.length ∧ at' ≤ old.length ∧ heads old c = n + heads (old.drop at') (c.drop n)
theorem HeadsAt.start (old c : List Int) : HeadsAt old c 0 0 := ⟨by simp, by simp, by simp⟩
theorem HeadsAt.step {old c : List Int} {n at' k : Nat} (h : HeadsAt old c n at') (hn : n < c.length) (hk : posOf (c.getD n 0) (old.drop at') = some k) : HeadsAt old c (n + 1) (at' + k + 1) := by
  obtain ⟨h1, h2, h3⟩ := h
  have h4 := (posOf_some hk).1
  simp only [List.length_drop] at h4
  refine ⟨by omega, by omega, ?_⟩
  rw [h3, drop_at hn, heads_some hk, List.drop_drop, show at' + (k + 1) = at' + k + 1 by omega]; omega
theorem HeadsAt.stop {old c : List Int} {n at' : Nat} (h : HeadsAt old c n at') (hn : n < c.length) (hk : posOf (c.getD n 0) (old.drop at') = none) : heads old c = n := by
  rw [h.2.2, drop_at hn, heads_none hk]; rfl
theorem HeadsAt.out {old c : List Int} {n at' : Nat} (h : HeadsAt old c n at') (hn : n = c.length) : heads old c = n := by
  rw [h.2.2, hn, List.drop_length, heads_nil]; rfl
theorem HeadsAt.stop' {old c : List Int} {n at' : Nat} (h : HeadsAt old c n at') (hn : n < c.length) (hk : c.getD n 0 ∉ old) : heads old c = n :=
  h.stop hn (posOf_none.2 fun hm => hk (List.mem_of_mem_drop hm))
/-- a unit that stands in the elder chain, but not where it must -/
theorem HeadsAt.bad {old c all : List Int} {n at' : Nat} (h : HeadsAt old c n at') (hn : n < c.length) (hk : posOf (c.getD n 0) (old.drop at') = none) (ho : c.getD n 0 ∈ all) : ¬ chainNext old all c := by
  rintro ⟨-, h2⟩
  rw [h.stop hn hk] at h2
  exact h2 (c.getD n 0) (by rw [drop_at hn]; simp) ho

/-! how often a unit stands, as the map of what was met tells it -/
def cntO (us : List Int) (u : Int) : Option Int := if us.count u = 0 then none else some (us.count u : Nat)
theorem cntO_nil (u : Int) : cntO [] u = none := by simp [cntO]
theorem cntO_snoc (us : List Int) (u v : Int) : cntO (us ++ [u]) v = if u = v then some ((cntO us u).getD 0 + 1) else cntO us v := by
  unfold cntO
  simp only [List.count_append, List.count_cons, List.count_nil]
  by_cases h : u = v
  · subst h
    simp only [beq_self_eq_true, if_true]
    by_cases h0 : us.count u = 0
    · simp [h0]
    · simp [h0]
  · simp [h]
theorem cntO_le (us : List Int) (u : Int) : 0 ≤ (cntO us u).getD 0 ∧ (cntO us u).getD 0 ≤ us.length := by
  unfold cntO
  have := List.count_le_length (a := u) (l := us)
  split
  · simp
  · simp; omega
theorem cntO_pos (us : List Int) (u : Int) : 0 < (cntO us u).getD 0 ↔ u ∈ us := by
  unfold cntO
  have := List.count_pos_iff (a := u) (l := us)
  split
  · rename_i h; rw [h] at this; simp at this; simp [this]
  · rename_i h; simp only [Option.getD_some]; rw [← this]; omega
theorem cntO_some (us : List Int) (u : Int) : (cntO us u).isSome ↔ u ∈ us := by
  unfold cntO
  have := List.count_pos_iff (a := u) (l := us)
  split
  · rename_i h; rw [h] at this; simp at this; simp [this]
  · rename_i h; simp; rw [← this]; omega
/-- what is asked of each unit that was met -/
def unitOk (p : Int × Int) : Prop := 0 ≤ p.1 ∧ p.1 < 16 ∧ p.2 ≤ 1
theorem units_ok {us : List Int} (h : ∀ u n, cntO us u = some n → unitOk (u, n)) : (∀ u ∈ us, 0 ≤ u ∧ u ≤ 15) ∧ us.Nodup := by
  constructor
  · intro u hu
    obtain ⟨n, hn⟩ := Option.isSome_iff_exists.1 ((cntO_some us u).2 hu)
    have := h u n hn
    unfold unitOk at this
    omega
  · rw [List.nodup_iff_count]
    intro u
    by_cases hu : u ∈ us
    · obtain ⟨n, hn⟩ := Option.isSome_iff_exists.1 ((cntO_some us u).2 hu)
      have := (h u n hn).2.2
      unfold cntO at hn
      split at hn
      · cases hn
      · cases hn; simp only at this; omega
    · rw [List.count_eq_zero.2 hu]; omega
theorem units_ok' {us : List Int} (h1 : ∀ u ∈ us, 0 ≤ u ∧ u ≤ 15) (h2 : us.Nodup) {u n : Int} (h : cntO us u = some n) : unitOk (u, n) := by
  have hu := (cntO_some us u).1 (by rw [h]; rfl)
  have := h1 u hu
  rw [List.nodup_iff_count] at h2
  have := h2 u
  unfold cntO at h
  split at h
  · cases h
  · cases h; exact ⟨by omega, by omega, by simp; omega⟩
theorem insU_pre {u : Int} : ∀ {l : List Int} {k : Nat}, k ≤ l.length → (∀ i, i < k → l.getD i 0 < u) → insU u l = l.take k ++ insU u (l.drop k)
  | l, 0, _, _ => by simp
  | [], k + 1, h, _ => by simp at h
  | x :: l, k + 1, h, hi => by
    have h0 := hi 0 (by omega)
    simp only [List.getD_cons_zero] at h0
    rw [insU, if_pos h0, List.take_succ_cons, List.drop_succ_cons, List.cons_append, insU_pre (by simpa using h) (fun i hik => by simpa using hi (i + 1) (by omega))]
theorem insU_end {u : Int} {l : List Int} {k : Nat} (hk : k = l.length) (hi : ∀ i, i < k → l.getD i 0 < u) : insU u l = l.take k ++ [u] ++ l.drop k := by
  rw [insU_pre (by omega) hi, hk, List.drop_length]; simp [insU]
theorem insU_hit {u : Int} {l : List Int} {k : Nat} (hk : k < l.length) (hi : ∀ i, i < k → l.getD i 0 < u) (h : l.getD k 0 = u) : insU u l = l := by
  rw [insU_pre (by omega) hi, drop_at hk, h, insU]
  simp only [Int.lt_irrefl, if_false, if_true]
  rw [← h, ← drop_at hk, List.take_append_drop]
theorem insU_mid {u : Int} {l : List Int} {k : Nat} (hk : k < l.length) (hi : ∀ i, i < k → l.getD i 0 < u) (h : u < l.getD k 0) : insU u l = l.take k ++ [u] ++ l.drop k := by
  rw [insU_pre (by omega) hi, drop_at hk, insU, if_neg (by omega), if_neg (by omega)]; simp
theorem length_unitsOf_le {us : List Int} {n : Nat} (h : us.length ≤ n) : (unitsOf us).length ≤ n := Nat.le_trans (length_unitsOf us) h
end Esch
