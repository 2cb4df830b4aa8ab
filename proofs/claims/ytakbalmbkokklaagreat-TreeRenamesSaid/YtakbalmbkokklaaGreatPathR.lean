/- a path cut at its strokes, plain -/
import Derived.Test.YtakbalmbkokklaaGreatPathM
namespace Esch
open Go

def pcsF : Nm → Nm → List Nm
  | cur, [] => [cur]
  | cur, c :: r => if c = 47 then cur :: pcsF [] r else pcsF (cur ++ [c]) r
theorem pcsF_cons (cur : Nm) (c : UInt8) (r : Nm) : pcsF cur (c :: r) = if c = 47 then cur :: pcsF [] r else pcsF (cur ++ [c]) r := rfl
def pcsT : Nm → List Nm
  | [] => []
  | _ :: r => pcsF [] r
theorem pcsF_eq : ∀ (r cur : Nm), pcsF cur r = (cur ++ r.takeWhile (· != 47)) :: pcsT (r.dropWhile (· != 47))
  | [], cur => by simp [pcsF, pcsT]
  | c :: r, cur => by
    rw [pcsF_cons]
    by_cases h : c = 47
    · subst h
      rw [if_pos rfl]
      have e1 : (47 :: r : Nm).takeWhile (· != 47) = [] := rfl
      have e2 : (47 :: r : Nm).dropWhile (· != 47) = 47 :: r := rfl
      rw [e1, e2, List.append_nil]
      rfl
    · have h2 : (c != 47) = true := by simpa using h
      rw [if_neg h, pcsF_eq r (cur ++ [c]), List.takeWhile_cons, List.dropWhile_cons, h2]
      simp only [if_true, List.append_assoc, List.singleton_append]
def okL (d : Nat) (l : List Nm) : Bool := decide (l.length ≤ d) && l.all nameL
theorem namesD_pcs : ∀ (d : Nat) (r : Nm), namesD d (47 :: r) = if okL d (pcsF [] r) = true then some (pcsF [] r) else none
  | 0, r => by
    rw [pcsF_eq]
    simp [namesD, okL]
  | d + 1, r => by
    rw [namesD_cons, pcsF_eq]
    rw [List.nil_append]
    by_cases hn : nameL (r.takeWhile (· != 47)) = true
    · rw [if_pos (show (47 : UInt8) = 47 ∧ nameL (r.takeWhile (· != 47)) = true from ⟨rfl, hn⟩)]
      cases hd : r.dropWhile (· != 47) with
      | nil => simp [okL, hn, pcsT]
      | cons c r' =>
        have hc : c = 47 := by
          have h1 : (r.dropWhile (· != 47)).head? = some c := by rw [hd]; rfl
          have := List.head?_dropWhile_not (p := fun x : UInt8 => x != 47) (l := r)
          rw [h1] at this
          simpa using this
        subst hc
        have e : okL (d + 1) (r.takeWhile (· != 47) :: pcsF [] r') = okL d (pcsF [] r') := by
          simp only [okL, List.length_cons, List.all_cons, hn, Bool.true_and, Nat.add_le_add_iff_right]
        show _ = if okL (d + 1) (r.takeWhile (· != 47) :: pcsF [] r') = true then some (r.takeWhile (· != 47) :: pcsF [] r') else none
        rw [if_neg (by simp), namesD_pcs d r', e]
        split <;> rfl
    · rw [if_neg (fun h => hn h.2), if_neg]
      simp [okL, hn]
theorem namesOf_pcs (r : Nm) : namesOf (47 :: r) = if r = [] then some [] else if okL 8 (pcsF [] r) = true then some (pcsF [] r) else none := by
  unfold namesOf
  by_cases h : r = []
  · subst h; rfl
  · rw [if_neg (by simpa using h), if_neg h, namesD_pcs]
theorem namesOf_no {c : UInt8} {r : Nm} (h : c ≠ 47) : namesOf (c :: r) = none := by
  unfold namesOf
  rw [if_neg (fun e => h (List.cons.inj e).1)]
  show namesD (7 + 1) _ = none
  rw [namesD_cons, if_neg (fun e => h e.1)]
theorem pcsF_len (r : Nm) : ∀ cur, (pcsF cur r).length ≤ r.length + 1 := by
  induction r with
  | nil => intro cur; simp [pcsF]
  | cons c r ih =>
    intro cur
    rw [pcsF_cons]
    split
    · have := ih []; simp only [List.length_cons]; omega
    · have := ih (cur ++ [c]); simp only [List.length_cons]; omega
theorem pathT_take {l : List Nm} {i : Nat} (h : i < l.length) : pathT (l.take (i + 1)) = pathT (l.take i) ++ (47 :: l.getD i []) := by
  rw [List.take_succ_eq_append_getElem h, List.getD_eq_getElem?_getD, List.getElem?_eq_getElem h]
  unfold pathT
  rw [List.flatMap_append]
  simp
theorem pathT_len {l : List Nm} (h : ∀ a ∈ l, nameL a = true) : (pathT l).length ≤ 9 * l.length := by
  induction l with
  | nil => simp [pathT]
  | cons a l ih =>
    have h1 := (nameL_len (h a (by simp))).2.1
    have h2 := ih fun x hx => h x (by simp [hx])
    simp only [pathT, List.flatMap_cons, List.length_append, List.length_cons] at *
    omega
theorem all_take {l : List Nm} {i : Nat} (h : i < l.length) : (l.take (i + 1)).all nameL = ((l.take i).all nameL && nameL (l.getD i [])) := by
  rw [List.take_succ_eq_append_getElem h, List.all_append, List.getD_eq_getElem?_getD, List.getElem?_eq_getElem h]; simp
theorem all_no {l : List Nm} {i : Nat} (h : i < l.length) (hn : nameL (l.getD i []) = false) : l.all nameL = false := by
  rw [List.all_eq_false]
  refine ⟨l.getD i [], ?_, by rw [hn]; decide⟩
  rw [List.getD_eq_getElem?_getD, List.getElem?_eq_getElem h]
  exact List.getElem_mem h
end Esch
