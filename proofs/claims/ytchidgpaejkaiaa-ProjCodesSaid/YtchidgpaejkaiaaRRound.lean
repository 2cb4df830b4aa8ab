import Derived.Test.YtchidgpaejkaiaaRound
import Derived.Test.YtchidgpaejkaiaaRUnpack
/- the document's decoding: plain Lean -/
namespace Go.Proofs.Ytchidgpaejkaiaa
open Go.RowKit Esch

/-- so many numbers of one byte each -/
def rU (s : ByteArray) (a : Nat) (b : Bool) : Nat → List Int × Nat × Bool
  | 0 => ([], a, b)
  | k + 1 => ((rU s a b k).1 ++ [((rNum s (rU s a b k).2.1 (rU s a b k).2.2 1).1 : Int)], (rNum s (rU s a b k).2.1 (rU s a b k).2.2 1).2)
/-- so many chains -/
def rC (s : ByteArray) (a : Nat) (b : Bool) : Nat → List (List Int) × Nat × Bool
  | 0 => ([], a, b)
  | k + 1 =>
    let n := rNum s (rC s a b k).2.1 (rC s a b k).2.2 1
    ((rC s a b k).1 ++ [(rU s n.2.1 n.2.2 n.1).1], (rU s n.2.1 n.2.2 n.1).2)
def rAll (s : ByteArray) : Proj × Nat × Bool :=
  let e := rNum s 0 false 4
  let n := rNum s e.2.1 e.2.2 1
  let r := rC s n.2.1 n.2.2 n.1
  (⟨e.1, r.1⟩, r.2)
def rOk (s : ByteArray) : Prop := (rAll s).2.2 = false ∧ (rAll s).2.1 = s.size ∧ (rAll s).1.good
theorem rU_len (s : ByteArray) (a : Nat) (b : Bool) : ∀ k, (rU s a b k).1.length = k
  | 0 => rfl
  | k + 1 => by simp [rU, rU_len s a b k]
theorem rC_len (s : ByteArray) (a : Nat) (b : Bool) : ∀ k, (rC s a b k).1.length = k
  | 0 => rfl
  | k + 1 => by simp [rC, rC_len s a b k]
theorem rNum_le (s : ByteArray) (a : Nat) (b : Bool) : (rNum s a b 1).1 ≤ 255 := by
  unfold rNum
  split
  · simp
  · split
    · simp
    · have := getB_lt (cutB s a 1)
      have h2 : (cutB s a 1).length ≤ 1 := by unfold cutB; exact List.length_take_le 1 _
      have h3 : 256 ^ (cutB s a 1).length ≤ 256 ^ 1 := Nat.pow_le_pow_right (by decide) h2
      show getB (cutB s a 1) ≤ 255
      omega
/-! on lists -/
def rL (l : List UInt8) (bad : Bool) (n : Nat) : Nat × List UInt8 × Bool :=
  if bad = true ∨ l.length < n then (0, l, true) else if 9223372036854775808 ≤ getB (l.take n) then (0, l, true) else (getB (l.take n), l.drop n, false)
def Lk {α : Type} (s : ByteArray) (r : α × Nat × Bool) (q : α × List UInt8 × Bool) : Prop := r.1 = q.1 ∧ q.2.1 = s.data.toList.drop r.2.1 ∧ r.2.2 = q.2.2 ∧ r.2.1 ≤ s.size
theorem rNum_lk (s : ByteArray) (a : Nat) (bad : Bool) (n : Nat) (ha : a ≤ s.size) : Lk s (rNum s a bad n) (rL (s.data.toList.drop a) bad n) := by
  have hl : (s.data.toList.drop a).length = s.size - a := by rw [List.length_drop]; rfl
  unfold rNum rL
  rw [hl]
  split
  · exact ⟨rfl, rfl, rfl, ha⟩
  · rename_i h
    have h2 : ¬ s.size - a < n := fun h' => h (Or.inr h')
    rw [show (s.data.toList.drop a).take n = cutB s a n from rfl]
    split
    · exact ⟨rfl, rfl, rfl, ha⟩
    · refine ⟨rfl, ?_, rfl, ?_⟩
      · simp [List.drop_drop]
      · show a + n ≤ s.size; omega
def rUL (l : List UInt8) (b : Bool) : Nat → List Int × List UInt8 × Bool
  | 0 => ([], l, b)
  | k + 1 => ((rUL l b k).1 ++ [((rL (rUL l b k).2.1 (rUL l b k).2.2 1).1 : Int)], (rL (rUL l b k).2.1 (rUL l b k).2.2 1).2)
theorem rU_lk (s : ByteArray) (a : Nat) (b : Bool) (ha : a ≤ s.size) : ∀ k, Lk s (rU s a b k) (rUL (s.data.toList.drop a) b k)
  | 0 => ⟨rfl, rfl, rfl, ha⟩
  | k + 1 => by
    obtain ⟨h1, h2, h3, h4⟩ := rU_lk s a b ha k
    obtain ⟨g1, g2, g3, g4⟩ := rNum_lk s (rU s a b k).2.1 (rU s a b k).2.2 1 h4
    rw [rU, rUL, ← h1, h2, ← h3]
    exact ⟨by rw [g1], g2, g3, g4⟩
def rCL (l : List UInt8) (b : Bool) : Nat → List (List Int) × List UInt8 × Bool
  | 0 => ([], l, b)
  | k + 1 =>
    let n := rL (rCL l b k).2.1 (rCL l b k).2.2 1
    ((rCL l b k).1 ++ [(rUL n.2.1 n.2.2 n.1).1], (rUL n.2.1 n.2.2 n.1).2)
theorem rC_lk (s : ByteArray) (a : Nat) (b : Bool) (ha : a ≤ s.size) : ∀ k, Lk s (rC s a b k) (rCL (s.data.toList.drop a) b k)
  | 0 => ⟨rfl, rfl, rfl, ha⟩
  | k + 1 => by
    obtain ⟨h1, h2, h3, h4⟩ := rC_lk s a b ha k
    obtain ⟨g1, g2, g3, g4⟩ := rNum_lk s (rC s a b k).2.1 (rC s a b k).2.2 1 h4
    rw [rC, rCL]
    try simp only
    rw [← h1, h2, ← h3, ← g1, g2, ← g3]
    obtain ⟨f1, f2, f3, f4⟩ := rU_lk s (rNum s (rC s a b k).2.1 (rC s a b k).2.2 1).2.1 (rNum s (rC s a b k).2.1 (rC s a b k).2.2 1).2.2 g4 (rNum s (rC s a b k).2.1 (rC s a b k).2.2 1).1
    exact ⟨by rw [f1], f2, f3, f4⟩
def rAL (l : List UInt8) : Proj × List UInt8 × Bool :=
  let e := rL l false 4
  let n := rL e.2.1 e.2.2 1
  let r := rCL n.2.1 n.2.2 n.1
  (⟨e.1, r.1⟩, r.2)
theorem rAll_lk (s : ByteArray) : Lk s (rAll s) (rAL s.data.toList) := by
  obtain ⟨h1, h2, h3, h4⟩ := rNum_lk s 0 false 4 (Nat.zero_le _)
  rw [List.drop_zero] at h1 h2 h3
  obtain ⟨g1, g2, g3, g4⟩ := rNum_lk s (rNum s 0 false 4).2.1 (rNum s 0 false 4).2.2 1 h4
  obtain ⟨f1, f2, f3, f4⟩ := rC_lk s (rNum s (rNum s 0 false 4).2.1 (rNum s 0 false 4).2.2 1).2.1 (rNum s (rNum s 0 false 4).2.1 (rNum s 0 false 4).2.2 1).2.2 g4 (rNum s (rNum s 0 false 4).2.1 (rNum s 0 false 4).2.2 1).1
  unfold rAll rAL
  try simp only
  rw [← h1, h2, ← h3, ← g1, g2, ← g3]
  exact ⟨by rw [f1], f2, f3, f4⟩
theorem rL_put {v n : Nat} {l : List UInt8} (h : v < 256 ^ n) (h2 : v < 9223372036854775808) : rL (putB v n ++ l) false n = (v, l, false) := by
  have hl := putB_length v n
  unfold rL
  rw [if_neg (by rintro (h | h); cases h; rw [List.length_append] at h; omega), show (putB v n ++ l).take n = putB v n from by rw [List.take_append_of_le_length (by omega), List.take_of_length_le (by omega)], getB_putB' h, if_neg (by omega),
    show (putB v n ++ l).drop n = l from by rw [List.drop_append_of_le_length (by omega), List.drop_of_length_le (by omega), List.nil_append]]
theorem rUL_put (l : List UInt8) (c : List Int) (h : ∀ u ∈ c, 0 ≤ u ∧ u ≤ 255) : ∀ k, k ≤ c.length → rUL ((c.flatMap fun u => putB u.toNat 1) ++ l) false k = (c.take k, ((c.drop k).flatMap fun u => putB u.toNat 1) ++ l, false)
  | 0, _ => rfl
  | k + 1, hk => by
    rw [rUL, rUL_put l c h k (by omega)]
    simp only
    rw [List.drop_eq_getElem_cons (show k < c.length by omega), List.flatMap_cons, List.append_assoc]
    have hu := h c[k] (List.getElem_mem _)
    rw [rL_put (by omega) (by omega), List.take_add_one, List.getElem?_eq_getElem (by omega)]
    simp only [Option.toList_some, Prod.mk.injEq, and_true, List.append_cancel_left_eq, List.cons.injEq]
    omega
theorem rCL_put (l : List UInt8) (cs : List (List Int)) (h : ∀ c ∈ cs, c.length ≤ 4 ∧ ∀ u ∈ c, 0 ≤ u ∧ u ≤ 255) : ∀ k, k ≤ cs.length → rCL (cs.flatMap encC ++ l) false k = (cs.take k, (cs.drop k).flatMap encC ++ l, false)
  | 0, _ => rfl
  | k + 1, hk => by
    rw [rCL, rCL_put l cs h k (by omega)]
    simp only
    rw [List.drop_eq_getElem_cons (show k < cs.length by omega), List.flatMap_cons, List.append_assoc]
    have hc := h cs[k] (List.getElem_mem _)
    rw [encC, List.append_assoc, rL_put (by omega) (by omega)]
    simp only
    rw [rUL_put _ _ hc.2 _ (Nat.le_refl _), List.take_length, List.drop_length, List.take_add_one, List.getElem?_eq_getElem (by omega)]
    simp
theorem rAL_enc {p : Proj} (h : p.good) : rAL (encL p) = (p, [], false) := by
  obtain ⟨g0, g1, g2, g3, g4, g5, -⟩ := h
  have hc : ∀ c ∈ p.chains, c.length ≤ 4 ∧ ∀ u ∈ c, 0 ≤ u ∧ u ≤ 255 := fun c hc => by
    refine ⟨(g4 c hc).2, fun u hu => ?_⟩
    have := g5 u (List.mem_flatten.2 ⟨c, hc, hu⟩)
    omega
  unfold rAL encL
  rw [List.append_assoc, rL_put (by omega) (by omega)]
  simp only
  rw [rL_put (by omega) (by omega)]
  simp only
  have := rCL_put [] p.chains hc _ (Nat.le_refl _)
  simp only [List.append_nil, List.drop_length, List.take_length, List.flatMap_nil] at this
  rw [this]
  simp only [show (p.epoch.toNat : Int) = p.epoch by omega]
theorem rL_back {l l' : List UInt8} {b : Bool} {n v : Nat} (h : rL l b n = (v, l', false)) : b = false ∧ l = putB v n ++ l' := by
  unfold rL at h
  split at h
  · simp at h
  · rename_i h1
    split at h
    · simp at h
    · simp only [Prod.mk.injEq, and_true] at h
      obtain ⟨h2, h3⟩ := h
      refine ⟨by cases b; rfl; exact absurd (Or.inl rfl) h1, ?_⟩
      have hl : (l.take n).length = n := by rw [List.length_take]; have := fun h => h1 (Or.inr h); omega
      have := putB_getB (l.take n)
      rw [hl, h2] at this
      rw [this, ← h3, List.take_append_drop]
theorem rUL_back {l : List UInt8} {b : Bool} : ∀ {k : Nat} {c : List Int} {l' : List UInt8}, rUL l b k = (c, l', false) → b = false ∧ l = (c.flatMap fun u => putB u.toNat 1) ++ l' ∧ c.length = k
  | 0, c, l', h => by simp only [rUL, Prod.mk.injEq] at h; obtain ⟨rfl, rfl, rfl⟩ := h; simp
  | k + 1, c, l', h => by
    rw [rUL] at h
    rcases hd : rUL l b k with ⟨c1, l1, b1⟩
    rw [hd] at h
    simp only at h
    rcases hu : rL l1 b1 1 with ⟨v, l2, b2⟩
    rw [hu] at h
    simp only [Prod.mk.injEq] at h
    obtain ⟨rfl, rfl, rfl⟩ := h
    obtain ⟨rfl, rfl⟩ := rL_back hu
    obtain ⟨rfl, rfl, rfl⟩ := rUL_back hd
    refine ⟨rfl, ?_, by simp⟩
    simp
theorem rCL_back {l : List UInt8} {b : Bool} : ∀ {k : Nat} {cs : List (List Int)} {l' : List UInt8}, rCL l b k = (cs, l', false) → b = false ∧ l = cs.flatMap encC ++ l' ∧ cs.length = k
  | 0, c, l', h => by simp only [rCL, Prod.mk.injEq] at h; obtain ⟨rfl, rfl, rfl⟩ := h; simp
  | k + 1, cs, l', h => by
    rw [rCL] at h
    rcases hd : rCL l b k with ⟨c1, l1, b1⟩
    rw [hd] at h
    simp only at h
    rcases hu : rL l1 b1 1 with ⟨v, l2, b2⟩
    rw [hu] at h
    simp only at h
    rcases he : rUL l2 b2 v with ⟨c, l3, b3⟩
    rw [he] at h
    simp only [Prod.mk.injEq] at h
    obtain ⟨rfl, rfl, rfl⟩ := h
    obtain ⟨rfl, rfl, rfl⟩ := rUL_back he
    obtain ⟨rfl, rfl⟩ := rL_back hu
    obtain ⟨rfl, rfl, rfl⟩ := rCL_back hd
    refine ⟨rfl, ?_, by simp⟩
    simp [encC]
theorem rAL_back {l : List UInt8} {p : Proj} (h : rAL l = (p, [], false)) : l = encL p := by
  unfold rAL at h
  rcases h1 : rL l false 4 with ⟨e, l1, b1⟩
  rw [h1] at h
  simp only at h
  rcases h2 : rL l1 b1 1 with ⟨n, l2, b2⟩
  rw [h2] at h
  simp only at h
  rcases h3 : rCL l2 b2 n with ⟨cs, l3, b3⟩
  rw [h3] at h
  simp only [Prod.mk.injEq] at h
  obtain ⟨rfl, rfl, rfl⟩ := h
  obtain ⟨rfl, rfl, rfl⟩ := rCL_back h3
  obtain ⟨rfl, rfl⟩ := rL_back h2
  obtain ⟨-, rfl⟩ := rL_back h1
  simp [encL]
theorem rOk_enc {s : ByteArray} (h : rOk s) : s = ⟨(encL (rAll s).1).toArray⟩ := by
  obtain ⟨h1, h2, h3⟩ := h
  obtain ⟨g1, g2, g3, g4⟩ := rAll_lk s
  have hn : (rAL s.data.toList).2.1 = [] := by rw [g2, h2]; exact List.drop_of_length_le (Nat.le_refl _)
  have hr : rAL s.data.toList = ((rAll s).1, [], false) := by
    rcases hd : rAL s.data.toList with ⟨p, l, b⟩
    rw [hd] at g1 g3 hn
    simp only at g1 g3 hn
    rw [g1, ← g3, h1, hn]
  have := rAL_back hr
  cases s
  simp only at this
  rw [← this]
theorem enc_rAll {p : Proj} (h : p.good) : (rAll ⟨(encL p).toArray⟩).1 = p ∧ rOk ⟨(encL p).toArray⟩ := by
  obtain ⟨g1, g2, g3, g4⟩ := rAll_lk ⟨(encL p).toArray⟩
  rw [show (ByteArray.mk (encL p).toArray).data.toList = encL p from rfl, rAL_enc h] at g1 g2 g3
  simp only at g1 g2 g3
  refine ⟨g1, g3, ?_, by rw [g1]; exact h⟩
  have h2 : (encL p).length ≤ (rAll ⟨(encL p).toArray⟩).2.1 := List.drop_eq_nil_iff.1 g2.symm
  have h3 : (⟨(encL p).toArray⟩ : ByteArray).size = (encL p).length := by show (encL p).toArray.size = _; simp
  omega
/-- both decode the same texts, to the same -/
theorem dec_same (s : ByteArray) : (decOk s ∧ rOk s ∧ (rAll s).1 = (decAll s).1) ∨ (¬ decOk s ∧ ¬ rOk s) := by
  by_cases hd : decOk s
  · have hs := enc_dec hd
    have hg := hd.2.2
    generalize (decAll s).1 = p at hs hg ⊢
    subst hs
    obtain ⟨h1, h2⟩ := enc_rAll hg
    exact .inl ⟨hd, h2, h1⟩
  · refine .inr ⟨hd, fun hr => hd ?_⟩
    have hs := rOk_enc hr
    have hg := hr.2.2
    generalize (rAll s).1 = p at hs hg
    subst hs
    exact decOk_enc hg
end Go.Proofs.Ytchidgpaejkaiaa
