/- the order of entries: cmp.Compare, cmp.Or, the closure of (*dir.Names).some -/
import Derived.Test.YtakbalmbkokklaaGreatChecked
import Derived.Test.YtakbalmbkokklaaGreatShelf2
import Derived.Test.YtakbalmbkokklaaGreatDirM
import Derived.Test.YtakbalmbkokklaaGreatPkPath
import Derived.Test.YtakbalmbkokklaaGreatPkBase
import Derived.Lib.Hide
import Derived.Deep.LoopGhost
import Derived.Deep.RegionHeld3
import Derived.Deep.QuietTactic
namespace Go.Proofs.YtakbalmbkokklaaGreat
open Go.RowKit Esch Go.Shelf

def cmpI (x y : Int) : Int := if x < y then -1 else if y < x then 1 else 0
def cmpS (x y : Nm) : Int := if lexS x y = true then -1 else if lexS y x = true then 1 else 0
def cmpE (x y : Ent) : Int := if cmpI x.1.1 y.1.1 = 0 then cmpS x.1.2 y.1.2 else cmpI x.1.1 y.1.1
theorem cmpE_lt (x y : Ent) : ltOf cmpE x y = entLt x y := by
  unfold ltOf cmpE entLt keyLt cmpI cmpS
  by_cases h1 : x.1.1 < y.1.1
  · simp [h1]
  · by_cases h2 : y.1.1 < x.1.1
    · have : ¬ x.1.1 = y.1.1 := by omega
      simp [h1, h2, this]
    · have : x.1.1 = y.1.1 := by omega
      rw [this]
      cases e : lexS x.1.2 y.1.2 <;> simp <;> (try (split <;> simp))
set_option maxHeartbeats 1000000 in
theorem cmpInt_any (w : World) (x y : Int) : Calls Tryz.prog 96 #[.int .i64 x, .int .i64 y] w fun e w' => e = .returned (.int .i64 (cmpI x y)) ∧ w' = w := by
  have hxx : (x != x) = false := by simp
  have hyy : (y != y) = false := by simp
  by_cases h1 : x < y
  · rw [show cmpI x y = -1 from if_pos h1]
    go_enter Tryz.func96, Tryz.ntmps96
    go_wp2
    go_ret
    exact ⟨rfl, rfl⟩
  · by_cases h2 : y < x
    · rw [show cmpI x y = 1 by unfold cmpI; rw [if_neg h1, if_pos h2]]
      go_enter Tryz.func96, Tryz.ntmps96
      go_wp2
      go_ret
      exact ⟨rfl, rfl⟩
    · rw [show cmpI x y = 0 by unfold cmpI; rw [if_neg h1, if_neg h2]]
      go_enter Tryz.func96, Tryz.ntmps96
      go_wp2
      go_ret
      exact ⟨rfl, rfl⟩
set_option maxHeartbeats 1000000 in
theorem cmpStr_any (w : World) (x y : Nm) : Calls Tryz.prog 97 #[.string (bs x), .string (bs y)] w fun e w' => e = .returned (.int .i64 (cmpS x y)) ∧ w' = w := by
  have hxx : ((bs x).toList == (bs x).toList) = true := beq_self_eq_true _
  have hyy : ((bs y).toList == (bs y).toList) = true := beq_self_eq_true _
  by_cases h1 : Op.bytesLess (bs x).toList (bs y).toList = true
  · rw [show cmpS x y = -1 by unfold cmpS; rw [if_pos]; unfold lexS; rwa [toList_bs, toList_bs] at h1]
    go_enter Tryz.func97, Tryz.ntmps97
    go_wp2
    go_ret
    exact ⟨rfl, rfl⟩
  · have h1' : Op.bytesLess (bs x).toList (bs y).toList = false := by simpa using h1
    by_cases h2 : Op.bytesLess (bs y).toList (bs x).toList = true
    · rw [show cmpS x y = 1 by
        unfold cmpS lexS
        rw [toList_bs, toList_bs] at h1 h2
        rw [if_neg h1, if_pos h2]]
      have hgt : ∀ W, (binOp .gtr 9 (.string (bs x)) (.string (bs y))).run Tryz.prog W = .ok (.bool true) W := fun W => by
        have e : ((bs x).toList == (bs y).toList) = false := by
          cases e : ((bs x).toList == (bs y).toList)
          · rfl
          · rw [eq_of_beq e, toList_bs] at h2
            rw [show Op.bytesLess y y = false from lexS_irrefl y] at h2; cases h2
        simp [binOp, Op.stringOp, h1', e]
      clear h1
      go_enter Tryz.func97, Tryz.ntmps97
      go_wp2
      go_ret
      exact ⟨rfl, rfl⟩
    · have h2' : Op.bytesLess (bs y).toList (bs x).toList = false := by simpa using h2
      rw [show cmpS x y = 0 by
        unfold cmpS lexS
        rw [toList_bs, toList_bs] at h1 h2
        rw [if_neg h1, if_neg h2]]
      have hgt : ∀ W, (binOp .gtr 9 (.string (bs x)) (.string (bs y))).run Tryz.prog W = .ok (.bool false) W := fun W => by
        have e : ((bs x).toList == (bs y).toList) = true := by
          rw [toList_bs, toList_bs] at *
          rw [lexS_total x y h1' h2']; exact beq_self_eq_true _
        simp [binOp, Op.stringOp, h1', e]
      clear h1 h2
      go_enter Tryz.func97, Tryz.ntmps97
      go_wp2
      go_ret
      exact ⟨rfl, rfl⟩
set_option maxHeartbeats 1000000 in
theorem cmpOr_any (w : World) (b : Nat) (x y : Int) (c : Nat) (h0 : w.cell? ⟨b, 0, none⟩ = some (.int .i64 x)) (h1 : w.cell? ⟨b, 1, none⟩ = some (.int .i64 y)) :
    Calls Tryz.prog 95 #[.slice (some ⟨b, 0, none⟩) 2 c] w fun e w' => e = .returned (.int .i64 (if x = 0 then y else x)) ∧ w' = w := by
  obtain ⟨r, hr⟩ : ∃ r, r = if x = 0 then y else x := ⟨_, rfl⟩
  rw [← hr]
  have HR := Lib.hid hr
  clear hr
  go_enter Tryz.func95, Tryz.ntmps95
  go_wp2_with fail
  go_loopg [8] 2 (fun g s8 wr => wr = w ∧ ((g = 2 ∧ s8 = .int .i64 0) ∨ (g = 1 ∧ s8 = .int .i64 1 ∧ x = 0) ∨ (g = 0 ∧ s8 = .int .i64 2 ∧ x = 0 ∧ y = 0)))
  case atStart => exact ⟨rfl, Or.inl ⟨rfl, rfl⟩⟩
  case round =>
    obtain ⟨rfl, ⟨rfl, rfl⟩ | ⟨rfl, rfl, rfl⟩ | ⟨rfl, rfl, rfl, rfl⟩⟩ := hrel
    · by_cases hx : x = 0
      · subst hx
        go_wp2_with fail
        go_roundg 1
        case measure => omega
        case rel => exact ⟨rfl, Or.inr (Or.inl ⟨rfl, by go_num, trivial⟩)⟩
      · have hx2 : (x != 0) = true := by simpa using hx
        have HX := Lib.hid hx
        clear hx
        go_wp2_with fail
        go_ret
        exact ⟨by rw [HR.out, if_neg HX.out]; rfl, rfl⟩
    · by_cases hx : y = 0
      · subst hx
        go_wp2_with fail
        go_roundg 0
        case measure => omega
        case rel => exact ⟨rfl, Or.inr (Or.inr ⟨rfl, by go_num, by first | rfl | trivial, by first | rfl | trivial⟩)⟩
      · have hx2 : (y != 0) = true := by simpa using hx
        clear hx
        go_wp2_with fail
        go_ret
        exact ⟨by rw [HR.out]; rfl, rfl⟩
    · go_wp2_with fail
      go_ret
      exact ⟨by rw [HR.out]; rfl, rfl⟩
def entC (e : Ent) : List Value := [.int .i64 e.1.1, strV e.1.2, .int .i64 e.2]
set_option maxRecDepth 100000 in
set_option maxHeartbeats 2000000 in
theorem cmpEnt_any (W : World) (x y : Ent) : Calls Tryz.prog 94 #[.agg (entC x).toArray, .agg (entC y).toArray] W fun e w' => e = .returned (.int .i64 (cmpE x y)) ∧ ∃ q os', w' = Sort.grow (W.drewN q) os' := by
  obtain ⟨⟨xd, xn⟩, xi⟩ := x
  obtain ⟨⟨yd, yn⟩, yi⟩ := y
  simp only [entC, strV]
  have hci := fun W' => cmpInt_any W' xd yd
  have hcs := fun W' => cmpStr_any W' xn yn
  rw [show cmpE ((xd, xn), xi) ((yd, yn), yi) = if cmpI xd yd = 0 then cmpS xn yn else cmpI xd yd from rfl]
  generalize cmpI xd yd = a at hci ⊢
  generalize cmpS xn yn = b at hcs ⊢
  have hor := fun W' b0 c h0 h1 => cmpOr_any W' b0 a b c h0 h1
  generalize (if a = 0 then b else a) = r at hor ⊢
  obtain ⟨W1, hW1⟩ : ∃ W1, W1 = (W.alloc (.cells #[.int .i64 xd, .string (bs xn), .int .i64 xi] 54)).alloc (.cells #[.int .i64 yd, .string (bs yn), .int .i64 yi] 54) := ⟨_, rfl⟩
  have c0 : W1.drew.cell? ⟨W.heap.size, 0, none⟩ = some (.int .i64 xd) := by rw [hW1]; go_simp
  have c1 : W1.drew.cell? ⟨W.heap.size, 1, none⟩ = some (.string (bs xn)) := by rw [hW1]; go_simp
  have c2 : W1.drew.cell? ⟨W.heap.size + 1, 0, none⟩ = some (.int .i64 yd) := by rw [hW1]; go_simp
  have c3 : W1.drew.cell? ⟨W.heap.size + 1, 1, none⟩ = some (.string (bs yn)) := by rw [hW1]; go_simp
  have HW1 := Lib.hid hW1
  clear hW1
  go_enter Tryz.func94, Tryz.ntmps94
  go_wp2_with fail
  rw [← HW1.out]
  refine wp_region_held_drew (S := fun w' => w'.cell? ⟨W.heap.size, 0, none⟩ = some (.int .i64 xd) ∧ w'.cell? ⟨W.heap.size, 1, none⟩ = some (.string (bs xn)) ∧ w'.cell? ⟨W.heap.size + 1, 0, none⟩ = some (.int .i64 yd) ∧ w'.cell? ⟨W.heap.size + 1, 1, none⟩ = some (.string (bs yn))) (by kernel_rfl) ⟨c0, c1, c2, c3⟩ (fun hHeld => ?_)
  refine takeL 0 ?_
  refine takeL 1 ?_
  refine takeL 2 ?_
  refine takeL 3 ?_
  refine takeL 5 ?_
  refine takeL 6 ?_
  refine takeL 7 ?_
  refine takeL 8 ?_
  refine wpAnyH_ready (rs := [4]) (by kernel_rfl) (by simp) ?_
  refine AllReadyH.cons (o := _) rfl (fun K hK => ?_) AllReadyH.nil
  go_simp
  go_at_call 96
  with_reducible refine (hci _).mono ?_
  clear hci
  rintro e w2 ⟨rfl, rfl⟩
  try go_wp2_with fail
  refine hK.out _ _ ⟨c0, c1, c2, c3⟩ (fun hHeld => ?_)
  clear hK K
  try simp only [Act.put, List.setIfInBounds_toArray, List.set_cons_zero, List.set_cons_succ]
  refine wpAnyH_ready (rs := [9]) (by kernel_rfl) (by simp) ?_
  refine AllReadyH.cons (o := _) rfl (fun K hK => ?_) AllReadyH.nil
  go_simp
  go_at_call 97
  with_reducible refine (hcs _).mono ?_
  clear hcs
  rintro e w2 ⟨rfl, rfl⟩
  try go_wp2_with fail
  refine hK.out _ _ ⟨c0, c1, c2, c3⟩ (fun hHeld => ?_)
  clear hK K
  try simp only [Act.put, List.setIfInBounds_toArray, List.set_cons_zero, List.set_cons_succ]
  refine wpAnyH_ready (rs := [10]) (by kernel_rfl) (by simp) ?_
  refine AllReadyH.cons (o := _) rfl (fun K hK => ?_) AllReadyH.nil
  go_simp
  obtain ⟨W2, hW2⟩ : ∃ W2, W2 = (W1.alloc (.cells #[.int .i64 a, .int .i64 b] 3)).drew := ⟨_, rfl⟩
  have hl : W.heap.size + 1 < W1.heap.size := cell_lt c2
  have d0 : W2.cell? ⟨W1.heap.size, 0, none⟩ = some (.int .i64 a) := by rw [hW2]; go_simp
  have d1 : W2.cell? ⟨W1.heap.size, 1, none⟩ = some (.int .i64 b) := by rw [hW2]; go_simp
  have hB : Below W1.heap.size W1.drew W2 := by
    rw [hW2]
    show Below W1.heap.size W1.drew (W1.drew.alloc _)
    exact belC (Below.refl _ _)
  have e0 := below_at hB c0 (by omega)
  have e1 := below_at hB c1 (by omega)
  have e2 := below_at hB c2 (by omega)
  have e3 := below_at hB c3 (by omega)
  have HW2 := Lib.hid hW2
  rw [← hW2]
  clear hW2 hB
  try go_wp2_with fail
  refine hK.out _ _ ⟨e0, e1, e2, e3⟩ (fun hHeld => ?_)
  clear hK K
  try simp only [Act.put, List.setIfInBounds_toArray, List.set_cons_zero, List.set_cons_succ]
  refine wpAnyH_ready (rs := [11]) (by kernel_rfl) (by simp) ?_
  refine AllReadyH.cons (o := _) rfl (fun K hK => ?_) AllReadyH.nil
  go_simp
  go_at_call 95
  with_reducible refine (hor _ _ _ d0 d1).mono ?_
  clear hor
  rintro e w3 ⟨rfl, rfl⟩
  try go_wp2_with fail
  refine hK.out _ _ ⟨e0, e1, e2, e3⟩ (fun hHeld => ?_)
  clear hK K
  try simp only [Act.put, List.setIfInBounds_toArray, List.set_cons_zero, List.set_cons_succ]
  refine takeL 12 ?_
  refine wpAnyH_done (by kernel_rfl) ?_ _
  go_wp2_with fail
  go_ret
  refine ⟨rfl, 1, #[.cells #[.int .i64 xd, .string (bs xn), .int .i64 xi] 54, .cells #[.int .i64 yd, .string (bs yn), .int .i64 yi] 54, .cells #[.int .i64 a, .int .i64 b] 3], ?_⟩
  rw [HW2.out, HW1.out]
  show ((((W.drew).alloc _).alloc _).alloc _) = Sort.grow W.drew _
  rw [Sort.alloc_eq_grow, Sort.alloc_eq_grow, Sort.alloc_eq_grow, Sort.grow_grow, Sort.grow_grow]
  rfl
theorem cmpLays (blk off size : Nat) (w : World) : CmpLays Tryz.prog 94 #[] entC 3 cmpE blk off size w := fun _ _ _ _ x y => cmpEnt_any _ x y
end Go.Proofs.YtakbalmbkokklaaGreat
