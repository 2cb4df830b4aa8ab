import Derived.Test.YtpkdpmkiplopmaaProjM
import Derived.Test.YtpkdpmkiplopmaaBytesM
/- a projection's text, in plain Lean -/
namespace Esch
def encC (c : List Int) : List UInt8 := putB c.length 1 ++ c.flatMap fun u => putB u.toNat 1
def encL (p : Proj) : List UInt8 := putB p.epoch.toNat 4 ++ putB p.chains.length 1 ++ p.chains.flatMap encC
theorem encC_len (c : List Int) : (encC c).length = 1 + c.length := by
  have : (c.flatMap fun u => putB u.toNat 1).length = c.length := by
    induction c with
    | nil => rfl
    | cons x l ih => rw [List.flatMap_cons, List.length_append, ih, putB_length, List.length_cons]; omega
  rw [encC, List.length_append, putB_length, this]
theorem enc_take {cs : List (List Int)} {k : Nat} (h : k < cs.length) : (cs.take (k + 1)).flatMap encC = (cs.take k).flatMap encC ++ encC (cs.getD k []) := by
  rw [List.take_add_one, List.flatMap_append, List.getElem?_eq_getElem h, List.getD_eq_getElem?_getD, List.getElem?_eq_getElem h]
  simp
theorem encu_take {c : List Int} {k : Nat} (h : k < c.length) : (c.take (k + 1)).flatMap (fun u => putB u.toNat 1) = (c.take k).flatMap (fun u => putB u.toNat 1) ++ putB (c.getD k 0).toNat 1 := by
  rw [List.take_add_one, List.flatMap_append, List.getElem?_eq_getElem h, List.getD_eq_getElem?_getD, List.getElem?_eq_getElem h]
  simp
theorem encu_len (c : List Int) : (c.flatMap fun u => putB u.toNat 1).length = c.length := by
  induction c with
  | nil => rfl
  | cons x l ih => rw [List.flatMap_cons, List.length_append, ih, putB_length, List.length_cons]; omega
theorem enc_len_le : ∀ {cs : List (List Int)} {m : Nat}, (∀ c ∈ cs, c.length ≤ m) → (cs.flatMap encC).length ≤ cs.length * (m + 1)
  | [], _, _ => by simp
  | c :: cs, m, h => by
    rw [List.flatMap_cons, List.length_append, encC_len, List.length_cons, Nat.add_mul]
    have := enc_len_le (cs := cs) (m := m) (fun x hx => h x (by simp [hx]))
    have := h c (by simp)
    omega
end Esch
