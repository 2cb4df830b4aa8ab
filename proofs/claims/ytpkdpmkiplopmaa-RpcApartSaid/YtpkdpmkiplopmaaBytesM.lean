/- numbers as bytes, the highest first: plain Lean -/
namespace Esch
def digit (v j : Nat) : UInt8 := UInt8.ofNat (v / 256 ^ j)
theorem digit_toNat (v j : Nat) : (digit v j).toNat = v / 256 ^ j % 256 := by
  simp [digit, UInt8.toNat_ofNat']
/-- a number's lowest bytes, the highest first -/
def putB (v : Nat) : Nat → List UInt8
  | 0 => []
  | n + 1 => digit v n :: putB v n
theorem putB_length (v : Nat) : ∀ n, (putB v n).length = n
  | 0 => rfl
  | n + 1 => by simp [putB, putB_length v n]
theorem putB_get (v : Nat) : ∀ (n i : Nat), i < n → (putB v n)[i]? = some (digit v (n - 1 - i))
  | 0, i, h => by omega
  | n + 1, 0, _ => by simp [putB]
  | n + 1, i + 1, h => by
    simp only [putB, List.getElem?_cons_succ]
    rw [putB_get v n i (by omega)]
    congr 2
    omega
def getB (l : List UInt8) : Nat := l.foldl (fun a b => a * 256 + b.toNat) 0
theorem getB_nil : getB [] = 0 := rfl
theorem getB_snoc (l : List UInt8) (b : UInt8) : getB (l ++ [b]) = getB l * 256 + b.toNat := by simp [getB, List.foldl_append]
theorem foldl_getB (l : List UInt8) : ∀ a, l.foldl (fun a b => a * 256 + b.toNat) a = a * 256 ^ l.length + getB l := by
  induction l with
  | nil => intro a; simp [getB]
  | cons x l ih =>
    intro a
    have e : getB (x :: l) = x.toNat * 256 ^ l.length + getB l := by rw [getB, List.foldl_cons, ih]; simp
    rw [List.foldl_cons, ih, e, List.length_cons, Nat.pow_succ, Nat.add_mul, Nat.mul_assoc, Nat.mul_comm 256 (256 ^ l.length)]
    omega
theorem getB_cons (x : UInt8) (l : List UInt8) : getB (x :: l) = x.toNat * 256 ^ l.length + getB l := by
  rw [getB, List.foldl_cons, foldl_getB]; simp
theorem getB_lt (l : List UInt8) : getB l < 256 ^ l.length := by
  induction l with
  | nil => simp [getB]
  | cons x l ih =>
    rw [getB_cons, List.length_cons, Nat.pow_succ]
    have := x.toNat_lt
    have h1 : x.toNat * 256 ^ l.length ≤ 255 * 256 ^ l.length := Nat.mul_le_mul_right _ (by omega)
    omega
theorem getB_putB (v : Nat) : ∀ n, getB (putB v n) = v % 256 ^ n
  | 0 => by simp [putB, getB, Nat.mod_one]
  | n + 1 => by
    rw [putB, getB_cons, putB_length, getB_putB v n, digit_toNat, Nat.pow_succ, Nat.mod_mul]
    rw [Nat.mul_comm]
    omega
theorem getB_putB' {v n : Nat} (h : v < 256 ^ n) : getB (putB v n) = v := by rw [getB_putB, Nat.mod_eq_of_lt h]
theorem digit_add {a b n : Nat} : ∀ i, i < n → digit (a * 256 ^ n + b) i = digit b i := by
  intro i hi
  apply UInt8.toNat_inj.1
  rw [digit_toNat, digit_toNat]
  have e : 256 ^ n = 256 ^ i * (256 * 256 ^ (n - 1 - i)) := by
    rw [← Nat.mul_assoc, ← Nat.pow_succ, ← Nat.pow_add]; congr 1; omega
  rw [e, show a * (256 ^ i * (256 * 256 ^ (n - 1 - i))) + b = b + 256 ^ i * (a * (256 * 256 ^ (n - 1 - i))) by rw [Nat.mul_left_comm]; omega]
  rw [Nat.add_mul_div_left _ _ (Nat.pow_pos (by decide)), show a * (256 * 256 ^ (n - 1 - i)) = 256 * (a * 256 ^ (n - 1 - i)) by rw [Nat.mul_left_comm], Nat.add_mul_mod_self_left]
theorem putB_congr {a b : Nat} : ∀ {n}, (∀ i, i < n → digit a i = digit b i) → putB a n = putB b n
  | 0, _ => rfl
  | n + 1, h => by rw [putB, putB, h n (by omega), putB_congr (fun i hi => h i (by omega))]
theorem putB_getB : ∀ (l : List UInt8), putB (getB l) l.length = l
  | [] => rfl
  | x :: l => by
    have h1 : digit (getB (x :: l)) l.length = x := by
      apply UInt8.toNat_inj.1
      rw [digit_toNat, getB_cons, Nat.add_comm, Nat.add_mul_div_right _ _ (Nat.pow_pos (by decide)), Nat.div_eq_of_lt (getB_lt l)]
      have := x.toNat_lt
      omega
    rw [List.length_cons, putB, h1, putB_congr (b := getB l) (fun i hi => by rw [getB_cons]; exact digit_add i hi), putB_getB l]
end Esch
