/- names in directories, plain: entries by key; their order; two sorted lists of one set are one -/
import Derived.Test.YtakbalmbkokklaaGreatPathM
import Derived.Sort.Statements
namespace Esch
open Go

abbrev DK := Int × Nm
abbrev Ent := DK × Int
def lexS (a b : Nm) : Bool := Op.bytesLess a b
theorem lexS_irrefl : ∀ a, lexS a a = false
  | [] => rfl
  | x :: a => by
    have := lexS_irrefl a
    unfold lexS at *
    simp [Op.bytesLess, this]
theorem lexS_trans : ∀ a b c, lexS a b = true → lexS b c = true → lexS a c = true
  | _, _, [], _, h => by simp [lexS, Op.bytesLess] at h
  | _, [], _ :: _, h, _ => by simp [lexS, Op.bytesLess] at h
  | [], _ :: _, _ :: _, _, _ => rfl
  | x :: a, y :: b, z :: c, h1, h2 => by
    have ih := lexS_trans a b c
    simp only [lexS, Op.bytesLess, Bool.or_eq_true, Bool.and_eq_true, decide_eq_true_eq, beq_iff_eq] at *
    rcases h1 with h1 | ⟨rfl, h1⟩
    · rcases h2 with h2 | ⟨rfl, h2⟩
      · exact Or.inl (UInt8.lt_trans h1 h2)
      · exact Or.inl h1
    · rcases h2 with h2 | ⟨rfl, h2⟩
      · exact Or.inl h2
      · exact Or.inr ⟨rfl, ih h1 h2⟩
theorem lexS_total : ∀ a b, lexS a b = false → lexS b a = false → a = b
  | [], [], _, _ => rfl
  | [], _ :: _, h, _ => by simp [lexS, Op.bytesLess] at h
  | _ :: _, [], _, h => by simp [lexS, Op.bytesLess] at h
  | x :: a, y :: b, h1, h2 => by
    have ih := lexS_total a b
    simp only [lexS, Op.bytesLess, Bool.or_eq_false_iff, Bool.and_eq_false_iff, decide_eq_false_iff_not, beq_eq_false_iff_ne, ne_eq] at *
    have e : x = y := UInt8.toNat_inj.1 (by have := h1.1; have := h2.1; simp only [UInt8.lt_iff_toNat_lt] at *; omega)
    subst e
    rw [ih (h1.2.resolve_left (fun h => h rfl)) (h2.2.resolve_left (fun h => h rfl))]
def keyLt (a b : DK) : Bool := decide (a.1 < b.1) || (decide (a.1 = b.1) && lexS a.2 b.2)
theorem keyLt_irrefl (a : DK) : keyLt a a = false := by simp [keyLt, lexS_irrefl]
theorem keyLt_trans {a b c : DK} (h1 : keyLt a b = true) (h2 : keyLt b c = true) : keyLt a c = true := by
  simp only [keyLt, Bool.or_eq_true, Bool.and_eq_true, decide_eq_true_eq] at *
  rcases h1 with h1 | ⟨h1, k1⟩
  · rcases h2 with h2 | ⟨h2, k2⟩ <;> exact Or.inl (by omega)
  · rcases h2 with h2 | ⟨h2, k2⟩
    · exact Or.inl (by omega)
    · exact Or.inr ⟨by omega, lexS_trans _ _ _ k1 k2⟩
theorem keyLt_total {a b : DK} (h1 : keyLt a b = false) (h2 : keyLt b a = false) : a = b := by
  simp only [keyLt, Bool.or_eq_false_iff, Bool.and_eq_false_iff, decide_eq_false_iff_not] at *
  have e : a.1 = b.1 := by omega
  exact Prod.ext e (lexS_total _ _ (h1.2.resolve_left (fun h => h e)) (h2.2.resolve_left (fun h => h e.symm)))
theorem keyLt_asymm {a b : DK} (h : keyLt a b = true) : keyLt b a = false := by
  cases e : keyLt b a
  · rfl
  · have := keyLt_trans h e
    rw [keyLt_irrefl] at this; cases this
def entLt (x y : Ent) : Bool := keyLt x.1 y.1
theorem entLt_swo : Sort.SWO entLt where
  irrefl x := keyLt_irrefl _
  trans x y z := keyLt_trans
  ntrans x y z h1 h2 := by
    cases e : entLt x z
    · rfl
    · exfalso
      unfold entLt at *
      cases e1 : keyLt y.1 x.1
      · rw [keyLt_total h1 e1] at e; rw [e] at h2; cases h2
      · have := keyLt_trans e1 e
        rw [h2] at this; cases this
/-- the entries that are such, in order -/
def SortedOf (m : List Ent) (p : Ent → Bool) (l : List Ent) : Prop := l.Perm (m.filter p) ∧ l.Pairwise (fun x y => entLt x y = true)
theorem sorted_strict {l : List Ent} (hs : l.Pairwise (fun x y => entLt y x = false)) (hn : (l.map (·.1)).Nodup) : l.Pairwise (fun x y => entLt x y = true) := by
  induction l with
  | nil => exact List.Pairwise.nil
  | cons a l ih =>
    rw [List.pairwise_cons] at hs ⊢
    rw [List.map_cons, List.nodup_cons] at hn
    refine ⟨fun b hb => ?_, ih hs.2 hn.2⟩
    cases e : entLt a b
    · exact absurd (List.mem_map.2 ⟨b, hb, (keyLt_total e (hs.1 b hb)).symm⟩) hn.1
    · rfl
theorem sorted_unique {l k : List Ent} (hp : l.Perm k) (hl : l.Pairwise (fun x y => entLt x y = true)) (hk : k.Pairwise (fun x y => entLt x y = true)) : l = k :=
  hp.eq_of_pairwise (fun a b _ _ h1 h2 => by
    have := keyLt_asymm h1
    unfold entLt at h2
    rw [this] at h2; cases h2) hl hk
theorem SortedOf.unique {m m' : List Ent} {p : Ent → Bool} {l k : List Ent} (hl : SortedOf m p l) (hk : SortedOf m' p k) (hm : m.Perm m') : l = k :=
  sorted_unique ((hl.1.trans (hm.filter p)).trans hk.1.symm) hl.2 hk.2
structure DirS where
  m : List Ent
  c : List (Int × Int)
def DirS.find (s : DirS) (d : Int) (n : Nm) : Option Int := get s.m (d, n)
def DirS.count (s : DirS) (d : Int) : Int := (get s.c d).getD 0
def DirS.add (s : DirS) (d : Int) (n : Nm) (i : Int) : Int × DirS :=
  if nameL n = false then (11, s) else if d < 1 ∨ 2147483647 < d ∨ i < 1 ∨ 2147483647 < i then (1, s) else if (s.find d n).isSome = true then (61, s)
  else if 64 ≤ s.count d then (67, s) else (0, ⟨set s.m (d, n) i, set s.c d (s.count d + 1)⟩)
def DirS.drop (s : DirS) (d : Int) (n : Nm) : Int × DirS := if s.find d n = none then (60, s) else (0, ⟨del s.m (d, n), set s.c d (s.count d - 1)⟩)
end Esch
