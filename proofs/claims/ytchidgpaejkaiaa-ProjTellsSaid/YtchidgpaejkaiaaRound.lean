import Derived.Test.YtchidgpaejkaiaaDec
/- a projection's text there and back, in plain Lean -/
namespace Go.Proofs.Ytchidgpaejkaiaa
open Go.RowKit Esch

def unL (l : List UInt8) (bad : Bool) (n : Nat) : Nat × List UInt8 × Bool :=
  if bad = true ∨ l.length < n then (0, l, true) else if 9223372036854775808 ≤ getB (l.take n) then (0, l.drop n, true) else (getB (l.take n), l.drop n, false)
def bx {α : Type} (r : α × List UInt8 × Bool) : α × ByteArray × Bool := (r.1, ⟨r.2.1.toArray⟩, r.2.2)
theorem unNum_bx (l : List UInt8) (bad : Bool) (n : Nat) : unNum ⟨l.toArray⟩ bad n = bx (unL l bad n) := by
  have hs : (ByteArray.mk l.toArray).size = l.length := by show l.toArray.size = _; simp
  have hc : cutB ⟨l.toArray⟩ 0 n = l.take n := by simp [cutB]
  have he : (ByteArray.mk l.toArray).extract n l.length = ⟨(l.drop n).toArray⟩ := by
    refine ByteArray.ext ?_
    rw [ByteArray.data_extract]
    refine Array.toList_inj.1 ?_
    simp [List.take_of_length_le]
  unfold unNum unL
  rw [hs, hc, he]
  split
  · rfl
  · split <;> rfl
def dUL (l : List UInt8) (b : Bool) : Nat → List Int × List UInt8 × Bool
  | 0 => ([], l, b)
  | k + 1 => ((dUL l b k).1 ++ [((unL (dUL l b k).2.1 (dUL l b k).2.2 1).1 : Int)], (unL (dUL l b k).2.1 (dUL l b k).2.2 1).2)
theorem decU_bx (l : List UInt8) (b : Bool) : ∀ k, decU ⟨l.toArray⟩ b k = bx (dUL l b k)
  | 0 => rfl
  | k + 1 => by
    rw [decU, decU_bx l b k]
    simp only [bx, unNum_bx, dUL]
def dCL (l : List UInt8) (b : Bool) : Nat → List (List Int) × List UInt8 × Bool
  | 0 => ([], l, b)
  | k + 1 =>
    let n := unL (dCL l b k).2.1 (dCL l b k).2.2 1
    ((dCL l b k).1 ++ [(dUL n.2.1 n.2.2 (min n.1 5)).1], (dUL n.2.1 n.2.2 (min n.1 5)).2)
theorem decCs_bx (l : List UInt8) (b : Bool) : ∀ k, decCs ⟨l.toArray⟩ b k = bx (dCL l b k)
  | 0 => rfl
  | k + 1 => by
    simp only [decCs, decCs_bx l b k, bx, unNum_bx, decU_bx, dCL]
def dAL (l : List UInt8) : Proj × List UInt8 × Bool :=
  let e := unL l false 4
  let n := unL e.2.1 e.2.2 1
  let r := dCL n.2.1 n.2.2 (min n.1 5)
  (⟨e.1, r.1⟩, r.2)
theorem decAll_bx (l : List UInt8) : decAll ⟨l.toArray⟩ = bx (dAL l) := by
  simp only [decAll, bx, unNum_bx, decCs_bx, dAL]
/-! there -/
theorem unL_put {v n : Nat} {l : List UInt8} (h : v < 256 ^ n) (h2 : v < 9223372036854775808) : unL (putB v n ++ l) false n = (v, l, false) := by
  have hl := putB_length v n
  unfold unL
  rw [if_neg (by rintro (h | h); cases h; rw [List.length_append] at h; omega), show (putB v n ++ l).take n = putB v n from by rw [List.take_append_of_le_length (by omega), List.take_of_length_le (by omega)], getB_putB' h, if_neg (by omega),
    show (putB v n ++ l).drop n = l from by rw [List.drop_append_of_le_length (by omega), List.drop_of_length_le (by omega), List.nil_append]]
theorem dUL_put (l : List UInt8) (c : List Int) (h : ∀ u ∈ c, 0 ≤ u ∧ u ≤ 255) : ∀ k, k ≤ c.length → dUL ((c.flatMap fun u => putB u.toNat 1) ++ l) false k = (c.take k, ((c.drop k).flatMap fun u => putB u.toNat 1) ++ l, false)
  | 0, _ => rfl
  | k + 1, hk => by
    rw [dUL, dUL_put l c h k (by omega)]
    simp only
    rw [List.drop_eq_getElem_cons (show k < c.length by omega), List.flatMap_cons, List.append_assoc]
    have hu := h c[k] (List.getElem_mem _)
    rw [unL_put (by omega) (by omega), List.take_add_one, List.getElem?_eq_getElem (by omega)]
    simp only [Option.toList_some, Prod.mk.injEq, and_true, List.append_cancel_left_eq, List.cons.injEq]
    omega
theorem dCL_put (l : List UInt8) (cs : List (List Int)) (h : ∀ c ∈ cs, c.length ≤ 4 ∧ ∀ u ∈ c, 0 ≤ u ∧ u ≤ 255) : ∀ k, k ≤ cs.length → dCL (cs.flatMap encC ++ l) false k = (cs.take k, (cs.drop k).flatMap encC ++ l, false)
  | 0, _ => rfl
  | k + 1, hk => by
    rw [dCL, dCL_put l cs h k (by omega)]
    simp only
    rw [List.drop_eq_getElem_cons (show k < cs.length by omega), List.flatMap_cons, List.append_assoc]
    have hc := h cs[k] (List.getElem_mem _)
    rw [encC, List.append_assoc, unL_put (by omega) (by omega)]
    simp only
    rw [Nat.min_eq_left (by omega), dUL_put _ _ hc.2 _ (Nat.le_refl _), List.take_length, List.drop_length, List.take_add_one, List.getElem?_eq_getElem (by omega)]
    simp
theorem dAL_enc {p : Proj} (h : p.good) : dAL (encL p) = (p, [], false) := by
  obtain ⟨g0, g1, g2, g3, g4, g5, -⟩ := h
  have hc : ∀ c ∈ p.chains, c.length ≤ 4 ∧ ∀ u ∈ c, 0 ≤ u ∧ u ≤ 255 := fun c hc => by
    refine ⟨(g4 c hc).2, fun u hu => ?_⟩
    have := g5 u (List.mem_flatten.2 ⟨c, hc, hu⟩)
    omega
  unfold dAL encL
  rw [List.append_assoc, unL_put (by omega) (by omega)]
  simp only
  rw [unL_put (by omega) (by omega)]
  simp only
  rw [Nat.min_eq_left (by omega)]
  have := dCL_put [] p.chains hc _ (Nat.le_refl _)
  simp only [List.append_nil, List.drop_length, List.take_length, List.flatMap_nil] at this
  rw [this]
  simp only [show (p.epoch.toNat : Int) = p.epoch by omega]
theorem decAll_enc {p : Proj} (h : p.good) : decAll ⟨(encL p).toArray⟩ = (p, ⟨#[]⟩, false) := by rw [decAll_bx, dAL_enc h]; rfl
theorem decOk_enc {p : Proj} (h : p.good) : decOk ⟨(encL p).toArray⟩ := by
  unfold decOk
  rw [decAll_enc h]
  exact ⟨rfl, rfl, h⟩
/-! and back -/
theorem unL_back {l l' : List UInt8} {b : Bool} {n v : Nat} (h : unL l b n = (v, l', false)) : b = false ∧ l = putB v n ++ l' := by
  unfold unL at h
  split at h
  · simp at h
  · rename_i h1
    split at h
    · simp at h
    · simp only [Prod.mk.injEq, and_true] at h
      obtain ⟨h2, h3⟩ := h
      refine ⟨by cases b; rfl; exact absurd (Or.inl rfl) h1, ?_⟩
      have hl : (l.take n).length = n := by rw [List.length_take]; have := fun h => h1 (Or.inr h); omega
      have := putB_getB (l.take n)
      rw [hl, h2] at this
      rw [this, ← h3, List.take_append_drop]
theorem unL_lt {l : List UInt8} {b : Bool} {n : Nat} : (unL l b n).1 < 256 ^ n := by
  have hp : 0 < 256 ^ n := Nat.pow_pos (by decide)
  unfold unL
  split
  · exact hp
  · split
    · exact hp
    · refine Nat.lt_of_lt_of_le (getB_lt _) (Nat.pow_le_pow_right (by decide) (List.length_take_le _ _))
theorem dUL_back {l : List UInt8} {b : Bool} : ∀ {k : Nat} {c : List Int} {l' : List UInt8}, dUL l b k = (c, l', false) → b = false ∧ l = (c.flatMap fun u => putB u.toNat 1) ++ l' ∧ c.length = k
  | 0, c, l', h => by simp only [dUL, Prod.mk.injEq] at h; obtain ⟨rfl, rfl, rfl⟩ := h; simp
  | k + 1, c, l', h => by
    rw [dUL] at h
    rcases hd : dUL l b k with ⟨c1, l1, b1⟩
    rw [hd] at h
    simp only at h
    rcases hu : unL l1 b1 1 with ⟨v, l2, b2⟩
    rw [hu] at h
    simp only [Prod.mk.injEq] at h
    obtain ⟨rfl, rfl, rfl⟩ := h
    obtain ⟨rfl, rfl⟩ := unL_back hu
    obtain ⟨rfl, rfl, rfl⟩ := dUL_back hd
    refine ⟨rfl, ?_, by simp⟩
    simp
theorem dCL_back {l : List UInt8} {b : Bool} : ∀ {k : Nat} {cs : List (List Int)} {l' : List UInt8}, dCL l b k = (cs, l', false) → (∀ c ∈ cs, c.length ≤ 4) → b = false ∧ l = cs.flatMap encC ++ l' ∧ cs.length = k
  | 0, c, l', h, _ => by simp only [dCL, Prod.mk.injEq] at h; obtain ⟨rfl, rfl, rfl⟩ := h; simp
  | k + 1, cs, l', h, hg => by
    rw [dCL] at h
    rcases hd : dCL l b k with ⟨c1, l1, b1⟩
    rw [hd] at h
    simp only at h
    rcases hu : unL l1 b1 1 with ⟨v, l2, b2⟩
    rw [hu] at h
    simp only at h
    rcases he : dUL l2 b2 (min v 5) with ⟨c, l3, b3⟩
    rw [he] at h
    simp only [Prod.mk.injEq] at h
    obtain ⟨rfl, rfl, rfl⟩ := h
    obtain ⟨rfl, rfl, hl⟩ := dUL_back he
    obtain ⟨rfl, rfl⟩ := unL_back hu
    obtain ⟨rfl, rfl, rfl⟩ := dCL_back hd (fun x hx => hg x (by simp [hx]))
    have := hg c (by simp)
    have hv : v = c.length := by omega
    refine ⟨rfl, ?_, by simp⟩
    rw [hv]
    simp [encC]
theorem dAL_back {l : List UInt8} {p : Proj} (h : dAL l = (p, [], false)) (hg : p.good) : l = encL p := by
  obtain ⟨g0, g1, g2, g3, g4, g5, -⟩ := hg
  unfold dAL at h
  rcases h1 : unL l false 4 with ⟨e, l1, b1⟩
  rw [h1] at h
  simp only at h
  rcases h2 : unL l1 b1 1 with ⟨n, l2, b2⟩
  rw [h2] at h
  simp only at h
  rcases h3 : dCL l2 b2 (min n 5) with ⟨cs, l3, b3⟩
  rw [h3] at h
  simp only [Prod.mk.injEq] at h
  obtain ⟨rfl, rfl, rfl⟩ := h
  obtain ⟨rfl, rfl, hl⟩ := dCL_back h3 (fun c hc => (g4 c hc).2)
  obtain ⟨rfl, rfl⟩ := unL_back h2
  obtain ⟨-, rfl⟩ := unL_back h1
  simp only at g3
  have : n = cs.length := by omega
  subst this
  simp [encL]
theorem enc_dec {s : ByteArray} (h : decOk s) : s = ⟨(encL (decAll s).1).toArray⟩ := by
  obtain ⟨h1, h2, h3⟩ := h
  have hs : s = ⟨s.data.toList.toArray⟩ := by cases s; simp
  generalize s.data.toList = l at hs
  subst hs
  rw [decAll_bx] at h1 h2 h3 ⊢
  rcases hd : dAL l with ⟨p, l', b⟩
  rw [hd] at h1 h2 h3
  simp only [bx] at h1 h2 h3 ⊢
  subst h1
  have h2' : l' = [] := List.eq_nil_of_length_eq_zero (by simpa [ByteArray.size] using h2)
  subst h2'
  rw [dAL_back hd h3]
end Go.Proofs.Ytchidgpaejkaiaa
