import Derived.Test.YtmnkackkeppheaaGreatPkByt
import Derived.Test.YtmnkackkeppheaaGreatPkPath
import Derived.Sort.Statements
import Derived.Test.YtmnkackkeppheaaGreatChecked
import Derived.Test.YtmnkackkeppheaaGreatShelf2
import Derived.Test.YtmnkackkeppheaaGreatPkBase
import Derived.Lib.Hide
import Derived.Deep.LoopGhost
import Derived.Deep.RegionHeld3
import Derived.Deep.QuietTactic
/- package op: records; within, known, kept -/
namespace Esch
open Go Go.RowKit
/-- a record, its moves as they lie -/
structure OpS where
  client : Int
  seq : Int
  kind : Int
  path : Nm
  dest : Nm
  size : Int
  hd : Int
  off : Int
  data : ByteArray
  tick : Int
  ino : Int
  mp : Option Addr
  ml : Nat
  mc : Nat
def OpS.cells (x : OpS) : List Value := [.int .i64 x.client, .int .i64 x.seq, .int .i64 x.kind, .string (bs x.path), .string (bs x.dest), .int .i64 x.size, .int .i64 x.hd, .int .i64 x.off, .string x.data, .int .i64 x.tick, .int .i64 x.ino, .slice x.mp x.ml x.mc]
/-- one field of x laid into o, by its letter -/
def OpS.put (x o : OpS) (c : UInt8) : OpS :=
  if c = 112 then { o with path := x.path } else if c = 116 then { o with dest := x.dest } else if c = 115 then { o with size := x.size } else if c = 104 then { o with hd := x.hd }
  else if c = 111 then { o with off := x.off } else if c = 100 then { o with data := x.data } else if c = 107 then { o with tick := x.tick } else if c = 105 then { o with ino := x.ino }
  else if c = 109 then { o with mp := x.mp, ml := x.ml, mc := x.mc } else o
end Esch
namespace Go.Proofs.YtmnkackkeppheaaGreat
open Go.RowKit Esch

end Go.Proofs.YtmnkackkeppheaaGreat
/- package op: the forms, one by one -/
namespace Esch
end Esch
namespace Go.Proofs.YtmnkackkeppheaaGreat
open Go.RowKit Esch

end Go.Proofs.YtmnkackkeppheaaGreat
/- package op: form 4 -/
namespace Go.Proofs.YtmnkackkeppheaaGreat
open Go.RowKit Esch

end Go.Proofs.YtmnkackkeppheaaGreat
/- records, plain: moves; what is good; the record of a text -/
namespace Esch
open Go Go.RowKit
end Esch
/- names in directories, plain: entries by key; their order; two sorted lists of one set are one -/
namespace Esch
open Go

abbrev DK := Int × Nm
abbrev Ent := DK × Int
def lexS (a b : Nm) : Bool := Op.bytesLess a b
theorem lexS_irrefl : ∀ a, lexS a a = false
  | [] => rfl
  | x :: a => by
    have := lexS_irrefl a
    unfold lexS at *
    simp [Op.bytesLess, this]
theorem lexS_trans : ∀ a b c, lexS a b = true → lexS b c = true → lexS a c = true
  | _, _, [], _, h => by simp [lexS, Op.bytesLess] at h
  | _, [], _ :: _, h, _ => by simp [lexS, Op.bytesLess] at h
  | [], _ :: _, _ :: _, _, _ => rfl
  | x :: a, y :: b, z :: c, h1, h2 => by
    have ih := lexS_trans a b c
    simp only [lexS, Op.bytesLess, Bool.or_eq_true, Bool.and_eq_true, decide_eq_true_eq, beq_iff_eq] at *
    rcases h1 with h1 | ⟨rfl, h1⟩
    · rcases h2 with h2 | ⟨rfl, h2⟩
      · exact Or.inl (UInt8.lt_trans h1 h2)
      · exact Or.inl h1
    · rcases h2 with h2 | ⟨rfl, h2⟩
      · exact Or.inl h2
      · exact Or.inr ⟨rfl, ih h1 h2⟩
theorem lexS_total : ∀ a b, lexS a b = false → lexS b a = false → a = b
  | [], [], _, _ => rfl
  | [], _ :: _, h, _ => by simp [lexS, Op.bytesLess] at h
  | _ :: _, [], _, h => by simp [lexS, Op.bytesLess] at h
  | x :: a, y :: b, h1, h2 => by
    have ih := lexS_total a b
    simp only [lexS, Op.bytesLess, Bool.or_eq_false_iff, Bool.and_eq_false_iff, decide_eq_false_iff_not, beq_eq_false_iff_ne, ne_eq] at *
    have e : x = y := UInt8.toNat_inj.1 (by have := h1.1; have := h2.1; simp only [UInt8.lt_iff_toNat_lt] at *; omega)
    subst e
    rw [ih (h1.2.resolve_left (fun h => h rfl)) (h2.2.resolve_left (fun h => h rfl))]
def keyLt (a b : DK) : Bool := decide (a.1 < b.1) || (decide (a.1 = b.1) && lexS a.2 b.2)
theorem keyLt_irrefl (a : DK) : keyLt a a = false := by simp [keyLt, lexS_irrefl]
theorem keyLt_trans {a b c : DK} (h1 : keyLt a b = true) (h2 : keyLt b c = true) : keyLt a c = true := by
  simp only [keyLt, Bool.or_eq_true, Bool.and_eq_true, decide_eq_true_eq] at *
  rcases h1 with h1 | ⟨h1, k1⟩
  · rcases h2 with h2 | ⟨h2, k2⟩ <;> exact Or.inl (by omega)
  · rcases h2 with h2 | ⟨h2, k2⟩
    · exact Or.inl (by omega)
    · exact Or.inr ⟨by omega, lexS_trans _ _ _ k1 k2⟩
theorem keyLt_total {a b : DK} (h1 : keyLt a b = false) (h2 : keyLt b a = false) : a = b := by
  simp only [keyLt, Bool.or_eq_false_iff, Bool.and_eq_false_iff, decide_eq_false_iff_not] at *
  have e : a.1 = b.1 := by omega
  exact Prod.ext e (lexS_total _ _ (h1.2.resolve_left (fun h => h e)) (h2.2.resolve_left (fun h => h e.symm)))
theorem keyLt_asymm {a b : DK} (h : keyLt a b = true) : keyLt b a = false := by
  cases e : keyLt b a
  · rfl
  · have := keyLt_trans h e
    rw [keyLt_irrefl] at this; cases this
def entLt (x y : Ent) : Bool := keyLt x.1 y.1
theorem entLt_swo : Sort.SWO entLt where
  irrefl x := keyLt_irrefl _
  trans x y z := keyLt_trans
  ntrans x y z h1 h2 := by
    cases e : entLt x z
    · rfl
    · exfalso
      unfold entLt at *
      cases e1 : keyLt y.1 x.1
      · rw [keyLt_total h1 e1] at e; rw [e] at h2; cases h2
      · have := keyLt_trans e1 e
        rw [h2] at this; cases this
/-- the entries that are such, in order -/
def SortedOf (m : List Ent) (p : Ent → Bool) (l : List Ent) : Prop := l.Perm (m.filter p) ∧ l.Pairwise (fun x y => entLt x y = true)
theorem sorted_strict {l : List Ent} (hs : l.Pairwise (fun x y => entLt y x = false)) (hn : (l.map (·.1)).Nodup) : l.Pairwise (fun x y => entLt x y = true) := by
  induction l with
  | nil => exact List.Pairwise.nil
  | cons a l ih =>
    rw [List.pairwise_cons] at hs ⊢
    rw [List.map_cons, List.nodup_cons] at hn
    refine ⟨fun b hb => ?_, ih hs.2 hn.2⟩
    cases e : entLt a b
    · exact absurd (List.mem_map.2 ⟨b, hb, (keyLt_total e (hs.1 b hb)).symm⟩) hn.1
    · rfl
theorem sorted_unique {l k : List Ent} (hp : l.Perm k) (hl : l.Pairwise (fun x y => entLt x y = true)) (hk : k.Pairwise (fun x y => entLt x y = true)) : l = k :=
  hp.eq_of_pairwise (fun a b _ _ h1 h2 => by
    have := keyLt_asymm h1
    unfold entLt at h2
    rw [this] at h2; cases h2) hl hk
theorem SortedOf.unique {m m' : List Ent} {p : Ent → Bool} {l k : List Ent} (hl : SortedOf m p l) (hk : SortedOf m' p k) (hm : m.Perm m') : l = k :=
  sorted_unique ((hl.1.trans (hm.filter p)).trans hk.1.symm) hl.2 hk.2
structure DirS where
  m : List Ent
  c : List (Int × Int)
def DirS.find (s : DirS) (d : Int) (n : Nm) : Option Int := get s.m (d, n)
def DirS.count (s : DirS) (d : Int) : Int := (get s.c d).getD 0
def DirS.add (s : DirS) (d : Int) (n : Nm) (i : Int) : Int × DirS :=
  if nameL n = false then (11, s) else if d < 1 ∨ 2147483647 < d ∨ i < 1 ∨ 2147483647 < i then (1, s) else if (s.find d n).isSome = true then (61, s)
  else if 64 ≤ s.count d then (67, s) else (0, ⟨set s.m (d, n) i, set s.c d (s.count d + 1)⟩)
end Esch
/- the order of entries: cmp.Compare, cmp.Or, the closure of (*dir.Names).some -/
namespace Go.Proofs.YtmnkackkeppheaaGreat
open Go.RowKit Esch Go.Shelf

def cmpI (x y : Int) : Int := if x < y then -1 else if y < x then 1 else 0
def cmpS (x y : Nm) : Int := if lexS x y = true then -1 else if lexS y x = true then 1 else 0
def cmpE (x y : Ent) : Int := if cmpI x.1.1 y.1.1 = 0 then cmpS x.1.2 y.1.2 else cmpI x.1.1 y.1.1
theorem cmpE_lt (x y : Ent) : ltOf cmpE x y = entLt x y := by
  unfold ltOf cmpE entLt keyLt cmpI cmpS
  by_cases h1 : x.1.1 < y.1.1
  · simp [h1]
  · by_cases h2 : y.1.1 < x.1.1
    · have : ¬ x.1.1 = y.1.1 := by omega
      simp [h1, h2, this]
    · have : x.1.1 = y.1.1 := by omega
      rw [this]
      cases e : lexS x.1.2 y.1.2 <;> simp <;> (try (split <;> simp))
set_option maxHeartbeats 1000000 in
theorem cmpInt_any (w : World) (x y : Int) : Calls Tryz.prog 83 #[.int .i64 x, .int .i64 y] w fun e w' => e = .returned (.int .i64 (cmpI x y)) ∧ w' = w := by
  have hxx : (x != x) = false := by simp
  have hyy : (y != y) = false := by simp
  by_cases h1 : x < y
  · rw [show cmpI x y = -1 from if_pos h1]
    go_enter Tryz.func83, Tryz.ntmps83
    go_wp2
    go_ret
    exact ⟨rfl, rfl⟩
  · by_cases h2 : y < x
    · rw [show cmpI x y = 1 by unfold cmpI; rw [if_neg h1, if_pos h2]]
      go_enter Tryz.func83, Tryz.ntmps83
      go_wp2
      go_ret
      exact ⟨rfl, rfl⟩
    · rw [show cmpI x y = 0 by unfold cmpI; rw [if_neg h1, if_neg h2]]
      go_enter Tryz.func83, Tryz.ntmps83
      go_wp2
      go_ret
      exact ⟨rfl, rfl⟩
set_option maxHeartbeats 1000000 in
theorem cmpStr_any (w : World) (x y : Nm) : Calls Tryz.prog 116 #[.string (bs x), .string (bs y)] w fun e w' => e = .returned (.int .i64 (cmpS x y)) ∧ w' = w := by
  have hxx : ((bs x).toList == (bs x).toList) = true := beq_self_eq_true _
  have hyy : ((bs y).toList == (bs y).toList) = true := beq_self_eq_true _
  by_cases h1 : Op.bytesLess (bs x).toList (bs y).toList = true
  · rw [show cmpS x y = -1 by unfold cmpS; rw [if_pos]; unfold lexS; rwa [toList_bs, toList_bs] at h1]
    go_enter Tryz.func116, Tryz.ntmps116
    go_wp2
    go_ret
    exact ⟨rfl, rfl⟩
  · have h1' : Op.bytesLess (bs x).toList (bs y).toList = false := by simpa using h1
    by_cases h2 : Op.bytesLess (bs y).toList (bs x).toList = true
    · rw [show cmpS x y = 1 by
        unfold cmpS lexS
        rw [toList_bs, toList_bs] at h1 h2
        rw [if_neg h1, if_pos h2]]
      have hgt : ∀ W, (binOp .gtr 9 (.string (bs x)) (.string (bs y))).run Tryz.prog W = .ok (.bool true) W := fun W => by
        have e : ((bs x).toList == (bs y).toList) = false := by
          cases e : ((bs x).toList == (bs y).toList)
          · rfl
          · rw [eq_of_beq e, toList_bs] at h2
            rw [show Op.bytesLess y y = false from lexS_irrefl y] at h2; cases h2
        simp [binOp, Op.stringOp, h1', e]
      clear h1
      go_enter Tryz.func116, Tryz.ntmps116
      go_wp2
      go_ret
      exact ⟨rfl, rfl⟩
    · have h2' : Op.bytesLess (bs y).toList (bs x).toList = false := by simpa using h2
      rw [show cmpS x y = 0 by
        unfold cmpS lexS
        rw [toList_bs, toList_bs] at h1 h2
        rw [if_neg h1, if_neg h2]]
      have hgt : ∀ W, (binOp .gtr 9 (.string (bs x)) (.string (bs y))).run Tryz.prog W = .ok (.bool false) W := fun W => by
        have e : ((bs x).toList == (bs y).toList) = true := by
          rw [toList_bs, toList_bs] at *
          rw [lexS_total x y h1' h2']; exact beq_self_eq_true _
        simp [binOp, Op.stringOp, h1', e]
      clear h1 h2
      go_enter Tryz.func116, Tryz.ntmps116
      go_wp2
      go_ret
      exact ⟨rfl, rfl⟩
set_option maxHeartbeats 1000000 in
theorem cmpOr_any (w : World) (b : Nat) (x y : Int) (c : Nat) (h0 : w.cell? ⟨b, 0, none⟩ = some (.int .i64 x)) (h1 : w.cell? ⟨b, 1, none⟩ = some (.int .i64 y)) :
    Calls Tryz.prog 82 #[.slice (some ⟨b, 0, none⟩) 2 c] w fun e w' => e = .returned (.int .i64 (if x = 0 then y else x)) ∧ w' = w := by
  obtain ⟨r, hr⟩ : ∃ r, r = if x = 0 then y else x := ⟨_, rfl⟩
  rw [← hr]
  have HR := Lib.hid hr
  clear hr
  go_enter Tryz.func82, Tryz.ntmps82
  go_wp2_with fail
  go_loopg [8] 2 (fun g s8 wr => wr = w ∧ ((g = 2 ∧ s8 = .int .i64 0) ∨ (g = 1 ∧ s8 = .int .i64 1 ∧ x = 0) ∨ (g = 0 ∧ s8 = .int .i64 2 ∧ x = 0 ∧ y = 0)))
  case atStart => exact ⟨rfl, Or.inl ⟨rfl, rfl⟩⟩
  case round =>
    obtain ⟨rfl, ⟨rfl, rfl⟩ | ⟨rfl, rfl, rfl⟩ | ⟨rfl, rfl, rfl, rfl⟩⟩ := hrel
    · by_cases hx : x = 0
      · subst hx
        go_wp2_with fail
        go_roundg 1
        case measure => omega
        case rel => exact ⟨rfl, Or.inr (Or.inl ⟨rfl, by go_num, trivial⟩)⟩
      · have hx2 : (x != 0) = true := by simpa using hx
        have HX := Lib.hid hx
        clear hx
        go_wp2_with fail
        go_ret
        exact ⟨by rw [HR.out, if_neg HX.out]; rfl, rfl⟩
    · by_cases hx : y = 0
      · subst hx
        go_wp2_with fail
        go_roundg 0
        case measure => omega
        case rel => exact ⟨rfl, Or.inr (Or.inr ⟨rfl, by go_num, by first | rfl | trivial, by first | rfl | trivial⟩)⟩
      · have hx2 : (y != 0) = true := by simpa using hx
        clear hx
        go_wp2_with fail
        go_ret
        exact ⟨by rw [HR.out]; rfl, rfl⟩
    · go_wp2_with fail
      go_ret
      exact ⟨by rw [HR.out]; rfl, rfl⟩
def entC (e : Ent) : List Value := [.int .i64 e.1.1, strV e.1.2, .int .i64 e.2]
set_option maxRecDepth 100000 in
set_option maxHeartbeats 2000000 in
theorem cmpEnt_any (W : World) (x y : Ent) : Calls Tryz.prog 115 #[.agg (entC x).toArray, .agg (entC y).toArray] W fun e w' => e = .returned (.int .i64 (cmpE x y)) ∧ ∃ q os', w' = Sort.grow (W.drewN q) os' := by
  obtain ⟨⟨xd, xn⟩, xi⟩ := x
  obtain ⟨⟨yd, yn⟩, yi⟩ := y
  simp only [entC, strV]
  have hci := fun W' => cmpInt_any W' xd yd
  have hcs := fun W' => cmpStr_any W' xn yn
  rw [show cmpE ((xd, xn), xi) ((yd, yn), yi) = if cmpI xd yd = 0 then cmpS xn yn else cmpI xd yd from rfl]
  generalize cmpI xd yd = a at hci ⊢
  generalize cmpS xn yn = b at hcs ⊢
  have hor := fun W' b0 c h0 h1 => cmpOr_any W' b0 a b c h0 h1
  generalize (if a = 0 then b else a) = r at hor ⊢
  obtain ⟨W1, hW1⟩ : ∃ W1, W1 = (W.alloc (.cells #[.int .i64 xd, .string (bs xn), .int .i64 xi] 106)).alloc (.cells #[.int .i64 yd, .string (bs yn), .int .i64 yi] 106) := ⟨_, rfl⟩
  have c0 : W1.drew.cell? ⟨W.heap.size, 0, none⟩ = some (.int .i64 xd) := by rw [hW1]; go_simp
  have c1 : W1.drew.cell? ⟨W.heap.size, 1, none⟩ = some (.string (bs xn)) := by rw [hW1]; go_simp
  have c2 : W1.drew.cell? ⟨W.heap.size + 1, 0, none⟩ = some (.int .i64 yd) := by rw [hW1]; go_simp
  have c3 : W1.drew.cell? ⟨W.heap.size + 1, 1, none⟩ = some (.string (bs yn)) := by rw [hW1]; go_simp
  have HW1 := Lib.hid hW1
  clear hW1
  go_enter Tryz.func115, Tryz.ntmps115
  go_wp2_with fail
  rw [← HW1.out]
  refine wp_region_held_drew (S := fun w' => w'.cell? ⟨W.heap.size, 0, none⟩ = some (.int .i64 xd) ∧ w'.cell? ⟨W.heap.size, 1, none⟩ = some (.string (bs xn)) ∧ w'.cell? ⟨W.heap.size + 1, 0, none⟩ = some (.int .i64 yd) ∧ w'.cell? ⟨W.heap.size + 1, 1, none⟩ = some (.string (bs yn))) (by kernel_rfl) ⟨c0, c1, c2, c3⟩ (fun hHeld => ?_)
  refine takeL 0 ?_
  refine takeL 1 ?_
  refine takeL 2 ?_
  refine takeL 3 ?_
  refine takeL 5 ?_
  refine takeL 6 ?_
  refine takeL 7 ?_
  refine takeL 8 ?_
  refine wpAnyH_ready (rs := [4]) (by kernel_rfl) (by simp) ?_
  refine AllReadyH.cons (o := _) rfl (fun K hK => ?_) AllReadyH.nil
  go_simp
  go_at_call 83
  with_reducible refine (hci _).mono ?_
  clear hci
  rintro e w2 ⟨rfl, rfl⟩
  try go_wp2_with fail
  refine hK.out _ _ ⟨c0, c1, c2, c3⟩ (fun hHeld => ?_)
  clear hK K
  try simp only [Act.put, List.setIfInBounds_toArray, List.set_cons_zero, List.set_cons_succ]
  refine wpAnyH_ready (rs := [9]) (by kernel_rfl) (by simp) ?_
  refine AllReadyH.cons (o := _) rfl (fun K hK => ?_) AllReadyH.nil
  go_simp
  go_at_call 116
  with_reducible refine (hcs _).mono ?_
  clear hcs
  rintro e w2 ⟨rfl, rfl⟩
  try go_wp2_with fail
  refine hK.out _ _ ⟨c0, c1, c2, c3⟩ (fun hHeld => ?_)
  clear hK K
  try simp only [Act.put, List.setIfInBounds_toArray, List.set_cons_zero, List.set_cons_succ]
  refine wpAnyH_ready (rs := [10]) (by kernel_rfl) (by simp) ?_
  refine AllReadyH.cons (o := _) rfl (fun K hK => ?_) AllReadyH.nil
  go_simp
  obtain ⟨W2, hW2⟩ : ∃ W2, W2 = (W1.alloc (.cells #[.int .i64 a, .int .i64 b] 3)).drew := ⟨_, rfl⟩
  have hl : W.heap.size + 1 < W1.heap.size := cell_lt c2
  have d0 : W2.cell? ⟨W1.heap.size, 0, none⟩ = some (.int .i64 a) := by rw [hW2]; go_simp
  have d1 : W2.cell? ⟨W1.heap.size, 1, none⟩ = some (.int .i64 b) := by rw [hW2]; go_simp
  have hB : Below W1.heap.size W1.drew W2 := by
    rw [hW2]
    show Below W1.heap.size W1.drew (W1.drew.alloc _)
    exact belC (Below.refl _ _)
  have e0 := below_at hB c0 (by omega)
  have e1 := below_at hB c1 (by omega)
  have e2 := below_at hB c2 (by omega)
  have e3 := below_at hB c3 (by omega)
  have HW2 := Lib.hid hW2
  rw [← hW2]
  clear hW2 hB
  try go_wp2_with fail
  refine hK.out _ _ ⟨e0, e1, e2, e3⟩ (fun hHeld => ?_)
  clear hK K
  try simp only [Act.put, List.setIfInBounds_toArray, List.set_cons_zero, List.set_cons_succ]
  refine wpAnyH_ready (rs := [11]) (by kernel_rfl) (by simp) ?_
  refine AllReadyH.cons (o := _) rfl (fun K hK => ?_) AllReadyH.nil
  go_simp
  go_at_call 82
  with_reducible refine (hor _ _ _ d0 d1).mono ?_
  clear hor
  rintro e w3 ⟨rfl, rfl⟩
  try go_wp2_with fail
  refine hK.out _ _ ⟨e0, e1, e2, e3⟩ (fun hHeld => ?_)
  clear hK K
  try simp only [Act.put, List.setIfInBounds_toArray, List.set_cons_zero, List.set_cons_succ]
  refine takeL 12 ?_
  refine wpAnyH_done (by kernel_rfl) ?_ _
  go_wp2_with fail
  go_ret
  refine ⟨rfl, 1, #[.cells #[.int .i64 xd, .string (bs xn), .int .i64 xi] 106, .cells #[.int .i64 yd, .string (bs yn), .int .i64 yi] 106, .cells #[.int .i64 a, .int .i64 b] 3], ?_⟩
  rw [HW2.out, HW1.out]
  show ((((W.drew).alloc _).alloc _).alloc _) = Sort.grow W.drew _
  rw [Sort.alloc_eq_grow, Sort.alloc_eq_grow, Sort.alloc_eq_grow, Sort.grow_grow, Sort.grow_grow]
  rfl
theorem cmpLays (blk off size : Nat) (w : World) : CmpLays Tryz.prog 115 #[] entC 3 cmpE blk off size w := fun _ _ _ _ x y => cmpEnt_any _ x y
end Go.Proofs.YtmnkackkeppheaaGreat
