/- paths and names, plain: a name is a list of bytes -/
import Derived.Test.YtakbalmbkokklaaGreatPkBase
namespace Esch
open Go

abbrev Nm := List UInt8
def bs (l : Nm) : ByteArray := ⟨l.toArray⟩
theorem bs_data (s : ByteArray) : bs s.data.toList = s := rfl
theorem bs_list (l : Nm) : (bs l).data.toList = l := rfl
@[simp] theorem bs_size (l : Nm) : (bs l).size = l.length := rfl
theorem bs_inj {a b : Nm} (h : bs a = bs b) : a = b := by rw [← bs_list a, ← bs_list b, h]
theorem bs_extract (l : Nm) (i j : Nat) : (bs l).extract i j = bs ((l.drop i).take (j - i)) := by
  apply ByteArray.ext
  simp only [ByteArray.data_extract, bs]
  apply Array.toList_inj.1
  simp [List.extract_eq_take_drop]
theorem bs_append (a b : Nm) : bs a ++ bs b = bs (a ++ b) := by
  apply ByteArray.ext
  simp [bs, ByteArray.data_append]
def okc (c : UInt8) : Bool := (97 ≤ c && c ≤ 122) || (48 ≤ c && c ≤ 57) || c == 95
def nameL (l : Nm) : Bool := decide (1 ≤ l.length) && decide (l.length ≤ 8) && l.all okc
theorem nameL_len {l : Nm} (h : nameL l = true) : 1 ≤ l.length ∧ l.length ≤ 8 ∧ l.all okc = true := by
  simpa [nameL, and_assoc] using h
theorem nameL_no {l : Nm} (h : nameL l = true) : ∀ c ∈ l, c ≠ 47 := by
  intro c hc e
  have := List.all_eq_true.1 (nameL_len h).2.2 c hc
  subst e
  exact absurd this (by decide)
def namesD : Nat → Nm → Option (List Nm)
  | 0, _ => none
  | _ + 1, [] => none
  | d + 1, c :: r => if c = 47 ∧ nameL (r.takeWhile (· != 47)) = true then
      if r.dropWhile (· != 47) = [] then some [r.takeWhile (· != 47)] else (namesD d (r.dropWhile (· != 47))).map (r.takeWhile (· != 47) :: ·)
    else none
theorem namesD_cons (d : Nat) (c : UInt8) (r : Nm) : namesD (d + 1) (c :: r) = if c = 47 ∧ nameL (r.takeWhile (· != 47)) = true then
      if r.dropWhile (· != 47) = [] then some [r.takeWhile (· != 47)] else (namesD d (r.dropWhile (· != 47))).map (r.takeWhile (· != 47) :: ·)
    else none := rfl
def namesOf (p : Nm) : Option (List Nm) := if p = [47] then some [] else namesD 8 p
def pathT (l : List Nm) : Nm := l.flatMap (47 :: ·)
def pathL (l : List Nm) : Nm := if l = [] then [47] else pathT l
theorem tw_app {a r : Nm} (ha : ∀ c ∈ a, c ≠ 47) (hr : r = [] ∨ ∃ r', r = 47 :: r') : (a ++ r).takeWhile (· != 47) = a ∧ (a ++ r).dropWhile (· != 47) = r := by
  induction a with
  | nil => rcases hr with rfl | ⟨r', rfl⟩ <;> simp
  | cons x a ih =>
    have hx : (x != 47) = true := by simpa using ha x (by simp)
    obtain ⟨i1, i2⟩ := ih fun c hc => ha c (by simp [hc])
    simp only [List.cons_append, List.takeWhile_cons, List.dropWhile_cons, hx, if_true]
    exact ⟨by rw [i1], i2⟩
theorem pathT_head (l : List Nm) : pathT l = [] ∨ ∃ r, pathT l = 47 :: r := by
  cases l with
  | nil => exact Or.inl rfl
  | cons a l => exact Or.inr ⟨_, rfl⟩
theorem namesD_path : ∀ (d : Nat) (l : List Nm), l ≠ [] → l.length ≤ d → (∀ a ∈ l, nameL a = true) → namesD d (pathT l) = some l
  | 0, [], h, _, _ => absurd rfl h
  | 0, _ :: _, _, h, _ => by simp at h
  | d + 1, [], h, _, _ => absurd rfl h
  | d + 1, a :: l, _, h, hn => by
    have ha := hn a (by simp)
    show namesD (d + 1) (47 :: (a ++ pathT l)) = _
    obtain ⟨t1, t2⟩ := tw_app (r := pathT l) (nameL_no ha) (pathT_head l)
    unfold namesD
    rw [t1, t2, if_pos ⟨rfl, ha⟩]
    cases l with
    | nil => rfl
    | cons b l =>
      rw [if_neg (by simp [pathT]), namesD_path d (b :: l) (by simp) (by simpa using h) fun x hx => hn x (List.mem_cons_of_mem _ hx)]
      rfl
theorem namesD_some : ∀ (d : Nat) (p : Nm) (l : List Nm), namesD d p = some l → l ≠ [] ∧ l.length ≤ d ∧ (∀ a ∈ l, nameL a = true) ∧ p = pathT l
  | 0, _, _, h => by simp [namesD] at h
  | d + 1, [], _, h => by simp [namesD] at h
  | d + 1, c :: r, l, h => by
    unfold namesD at h
    by_cases hc : c = 47 ∧ nameL (r.takeWhile (· != 47)) = true
    · rw [if_pos hc] at h
      obtain ⟨rfl, hn⟩ := hc
      have e := List.takeWhile_append_dropWhile (p := (· != 47)) (l := r)
      by_cases hd : r.dropWhile (· != 47) = []
      · rw [if_pos hd] at h
        obtain rfl := Option.some.inj h
        refine ⟨by simp, by simp, by simpa using hn, ?_⟩
        rw [hd, List.append_nil] at e
        simp only [pathT, List.flatMap_cons, List.flatMap_nil, List.append_nil, e]
      · rw [if_neg hd] at h
        obtain ⟨l', hl', rfl⟩ := Option.map_eq_some_iff.1 h
        obtain ⟨i1, i2, i3, i4⟩ := namesD_some d _ l' hl'
        refine ⟨by simp, by simpa using i2, ?_, ?_⟩
        · intro a ha
          rcases List.mem_cons.1 ha with rfl | ha
          · exact hn
          · exact i3 a ha
        · show 47 :: r = 47 :: (_ ++ pathT l')
          rw [← i4, e]
    · rw [if_neg hc] at h; cases h
theorem namesOf_path {l : List Nm} (h : l.length ≤ 8) (hn : ∀ a ∈ l, nameL a = true) : namesOf (pathL l) = some l := by
  unfold namesOf pathL
  by_cases e : l = []
  · subst e; rfl
  · rw [if_neg e, if_neg, namesD_path 8 l e h hn]
    intro e2
    cases l with
    | nil => exact e rfl
    | cons a l =>
      have ha := nameL_len (hn a (by simp))
      have : (pathT (a :: l)).length = 1 := by rw [e2]; rfl
      simp only [pathT, List.flatMap_cons, List.length_append, List.length_cons] at this
      omega
theorem namesOf_some {p : Nm} {l : List Nm} (h : namesOf p = some l) : l.length ≤ 8 ∧ (∀ a ∈ l, nameL a = true) ∧ p = pathL l := by
  unfold namesOf at h
  by_cases e : p = [47]
  · rw [if_pos e] at h
    obtain rfl := Option.some.inj h
    exact ⟨by simp, by simp, e⟩
  · rw [if_neg e] at h
    obtain ⟨h1, h2, h3, h4⟩ := namesD_some 8 p l h
    exact ⟨h2, h3, by rw [h4, pathL, if_neg h1]⟩
/-- the round of the loop: l are the names that were met -/
def namesFrom (l : List Nm) (t : Nm) : Option (List Nm) := (namesD (8 - l.length) t).map (l ++ ·)
theorem namesFrom_nil (l : List Nm) : namesFrom l [] = none := by
  unfold namesFrom
  cases 8 - l.length <;> rfl
theorem namesFrom_cons (l : List Nm) (c : UInt8) (r : Nm) : namesFrom l (c :: r) =
    if c ≠ 47 ∨ 8 ≤ l.length then none else if nameL (r.takeWhile (· != 47)) = true then
      if r.dropWhile (· != 47) = [] then some (l ++ [r.takeWhile (· != 47)]) else namesFrom (l ++ [r.takeWhile (· != 47)]) (r.dropWhile (· != 47))
    else none := by
  unfold namesFrom
  by_cases h8 : 8 ≤ l.length
  · rw [if_pos (Or.inr h8), show 8 - l.length = 0 by omega]; rfl
  · obtain ⟨d, hd⟩ : ∃ d, 8 - l.length = d + 1 := ⟨7 - l.length, by omega⟩
    have hd' : 8 - (l ++ [r.takeWhile (· != 47)]).length = d := by simp; omega
    rw [hd, hd', namesD_cons]
    by_cases hc : c = 47
    · have e0 : ¬ (c ≠ 47 ∨ 8 ≤ l.length) := fun h => h.elim (fun h => h hc) h8
      rw [if_neg e0]
      by_cases hn : nameL (r.takeWhile (· != 47)) = true
      · rw [if_pos hn, if_pos (show c = 47 ∧ nameL (r.takeWhile (· != 47)) = true from ⟨hc, hn⟩)]
        split
        · rfl
        · simp [Option.map_map, Function.comp_def]
      · rw [if_neg hn, if_neg (show ¬ (c = 47 ∧ nameL (r.takeWhile (· != 47)) = true) from fun h => hn h.2)]; rfl
    · rw [if_pos (show c ≠ 47 ∨ 8 ≤ l.length from Or.inl hc), if_neg (show ¬ (c = 47 ∧ nameL (r.takeWhile (· != 47)) = true) from fun h => hc h.1)]; rfl
theorem firstIdx_bs (t : Nm) : firstIdx (bs t) 47 = if t.dropWhile (· != 47) = [] then -1 else ((t.takeWhile (· != 47)).length : Int) := by
  have key : ∀ (t pre : Nm), ((List.range' pre.length t.length).find? fun i => (bs (pre ++ t))[i]! == 47) = if t.dropWhile (· != 47) = [] then none else some (pre.length + (t.takeWhile (· != 47)).length) := by
    intro t
    induction t with
    | nil => intro pre; rfl
    | cons c t ih =>
      intro pre
      have hc : (bs (pre ++ c :: t))[pre.length]! = c := by
        rw [getElem!_pos (bs (pre ++ c :: t)) pre.length (by simp)]
        show (pre ++ c :: t).toArray[pre.length]'(by simp) = c
        simp
      rw [List.length_cons, List.range'_succ, List.find?_cons, hc]
      by_cases h : c = 47
      · subst h; simp
      · have h1 : (c == 47) = false := by simpa using h
        have h2 : (c != 47) = true := by simpa using h
        have := ih (pre ++ [c])
        simp only [List.append_assoc, List.singleton_append, List.length_append, List.length_singleton] at this
        simp only [h1, List.takeWhile_cons, List.dropWhile_cons, h2, if_true]
        rw [this]
        split
        · rfl
        · simp; omega
  have := key t []
  simp only [List.nil_append, List.length_nil, Nat.zero_add] at this
  unfold firstIdx
  rw [show (bs t).size = t.length from rfl, List.range_eq_range', this]
  by_cases e : t.dropWhile (· != 47) = []
  · rw [if_pos e, if_pos e]
  · rw [if_neg e, if_neg e]
end Esch
