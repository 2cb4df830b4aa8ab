/- the library's small calls on lists of integers -/
import Derived.Test.YtghdhhbpbmhooaaGreatPkKeep
namespace Go.Proofs.YtghdhhbpbmhooaaGreat
open Go.RowKit Esch

def idxI (l : List Int) (x : Int) : Int := match posOf x l with | none => -1 | some k => (k : Nat)
def IdxRel (w0 : World) (l : List Int) (x : Int) (g : Nat) (s8 : Value) (wr : World) : Prop :=
  ∃ k : Nat, g = l.length - k ∧ k ≤ l.length ∧ s8 = .int .i64 k ∧ (∀ j, j < k → l.getD j 0 ≠ x) ∧ wr = w0
theorem posOf_at {l : List Int} {x : Int} {k : Nat} (hk : k < l.length) (h : l.getD k 0 = x) (hj : ∀ j, j < k → l.getD j 0 ≠ x) : posOf x l = some k := by
  cases hp : posOf x l with
  | none =>
    exfalso
    apply posOf_none.1 hp
    rw [← h, List.getD_eq_getElem?_getD, List.getElem?_eq_getElem hk, Option.getD_some]
    exact List.getElem_mem hk
  | some i =>
    obtain ⟨h1, h2, h3⟩ := posOf_some hp
    rcases Nat.lt_trichotomy i k with hlt | rfl | hgt
    · exact absurd (by rw [List.getD_eq_getElem?_getD, h2]; rfl) (hj i hlt)
    · rfl
    · exfalso
      apply h3 k hgt
      rw [List.getD_eq_getElem?_getD, List.getElem?_eq_getElem hk, Option.getD_some] at h
      rw [List.getElem?_eq_getElem hk, h]
theorem posOf_out {l : List Int} {x : Int} (hj : ∀ j, j < l.length → l.getD j 0 ≠ x) : posOf x l = none := by
  refine posOf_none.2 fun hm => ?_
  obtain ⟨i, hi, rfl⟩ := List.mem_iff_getElem.1 hm
  exact hj i hi (by rw [List.getD_eq_getElem?_getD, List.getElem?_eq_getElem hi, Option.getD_some])
theorem ret_i64 {a b : Int} (h : a = b) : Ending.returned (.int .i64 a) = .returned (.int .i64 b) := by rw [h]

set_option maxHeartbeats 1000000 in
theorem index_any (S : Nat → Prop) (w : World) (a : Option Addr) (c : Nat) (l : List Int) (x : Int) (h : IntsAt S w a l) :
    Calls Tryz.prog 80 #[.slice a l.length c, .int .i64 x] w fun e w' => e = .returned (.int .i64 (idxI l x)) ∧ w = w' := by
  obtain ⟨hm, h⟩ := h
  have H := Lib.hid h
  clear h
  go_enter Tryz.func80, Tryz.ntmps80
  go_wp2_with fail
  go_loopg [8] l.length (fun g s8 wr => IdxRel w l x g s8 wr)
  case atStart => exact ⟨0, rfl, Nat.zero_le _, rfl, fun j hj => absurd hj (by omega), rfl⟩
  case round =>
    obtain ⟨k, rfl, hk, rfl, hj, rfl⟩ := hrel
    have Hj := Lib.hid hj
    clear hj
    by_cases hlt : k < l.length
    · obtain ⟨b, off, rfl, -, hb, hc⟩ := H.out (by omega)
      have hc1 := hc k hlt
      clear hc
      generalize hv : l.getD k 0 = v at hc1
      have Hv := Lib.hid hv
      clear hv
      have hk1 : (0 : Int) ≤ k := by omega
      have hk2 : (k : Int) < l.length := by omega
      by_cases hx : x = v
      · have hx' : (x == v) = true := by simp [hx]
        have Hx := Lib.hid hx
        clear hx
        go_wp2_with fail
        go_ret
        exact ⟨ret_i64 (by unfold idxI; rw [posOf_at hlt (Hv.out.trans Hx.out.symm) Hj.out]), rfl⟩
      · have hx' : (x == v) = false := by simp [hx]
        have Hx := Lib.hid hx
        clear hx
        go_wp2_with fail
        go_roundg (l.length - (k + 1))
        case measure => omega
        case rel =>
          refine ⟨k + 1, rfl, by omega, by go_num, fun j hj => ?_, rfl⟩
          by_cases e : j = k
          · subst e; rw [Hv.out]; exact fun e => Hx.out e.symm
          · exact Hj.out j (by omega)
    · have hk3 : k = l.length := by omega
      go_wp2_with fail
      go_ret
      exact ⟨ret_i64 (by unfold idxI; rw [posOf_out (by rw [← hk3]; exact Hj.out)]), rfl⟩

theorem idxI_ge (l : List Int) (x : Int) : decide (0 ≤ idxI l x) = decide (x ∈ l) := by
  unfold idxI
  cases hp : posOf x l with
  | none => simp [posOf_none.1 hp]
  | some k =>
    obtain ⟨h1, h2, -⟩ := posOf_some hp
    have : x ∈ l := List.mem_of_getElem? h2
    simp [this]
set_option maxHeartbeats 1000000 in
theorem contains_any (S : Nat → Prop) (w : World) (a : Option Addr) (c : Nat) (l : List Int) (x : Int) (h : IntsAt S w a l) :
    Calls Tryz.prog 51 #[.slice a l.length c, .int .i64 x] w fun e w' => e = .returned (.bool (decide (x ∈ l))) ∧ w = w' := by
  have hcon := index_any S w a c l x h
  rw [← idxI_ge]
  clear h
  go_enter Tryz.func51, Tryz.ntmps51
  go_wp2_with fail
  refine hcon.mono ?_
  clear hcon
  rintro e w' ⟨rfl, rfl⟩
  go_wp2_with fail
  go_ret
  exact ⟨rfl, rfl⟩

def IdxRelF (w0 : World) (l : List Int) (p : Int → Bool) (g : Nat) (s8 : Value) (wr : World) : Prop :=
  ∃ k : Nat, g = l.length - k ∧ k ≤ l.length ∧ s8 = .int .i64 k ∧ (∀ j, j < k → p (l.getD j 0) = false) ∧ ∃ n, wr = w0.drewN n
def IdxFPost (w : World) (l : List Int) (p : Int → Bool) (e : Ending) (w' : World) : Prop := ∃ i : Int, e = .returned (.int .i64 i) ∧ decide (0 ≤ i) = l.any p ∧ ∃ n, w' = w.drewN n
theorem any_at {l : List Int} {p : Int → Bool} {k : Nat} (hk : k < l.length) (h : p (l.getD k 0) = true) : l.any p = true := by
  rw [List.any_eq_true]
  refine ⟨_, ?_, h⟩
  rw [List.getD_eq_getElem?_getD, List.getElem?_eq_getElem hk, Option.getD_some]; exact List.getElem_mem hk
theorem any_out {l : List Int} {p : Int → Bool} (h : ∀ j, j < l.length → p (l.getD j 0) = false) : l.any p = false := by
  rw [List.any_eq_false]
  intro x hx
  obtain ⟨i, hi, rfl⟩ := List.mem_iff_getElem.1 hx
  have := h i hi
  rw [List.getD_eq_getElem?_getD, List.getElem?_eq_getElem hi, Option.getD_some] at this
  simp [this]
set_option maxHeartbeats 1000000 in
theorem indexFunc_0 (S : Nat → Prop) (w : World) (a : Option Addr) (c : Nat) (l : List Int) (p : Int → Bool) (cb : Value) (h : IntsAt S w a l)
    (hp : ∀ n u, Calls Tryz.prog 82 #[.int .i64 u, cb] (w.drewN n) (Drawn (w.drewN n) (.bool (p u)))) :
    Calls Tryz.prog 102 #[.slice a l.length c, .func (.func 82) #[] #[cb]] w (IdxFPost w l p) := by
  obtain ⟨hm, h⟩ := h
  have H := Lib.hid h
  clear h
  go_enter Tryz.func102, Tryz.ntmps102
  go_wp2_with fail
  go_loopg [8] l.length (fun g s8 wr => IdxRelF w l p g s8 wr)
  case atStart => exact ⟨0, rfl, Nat.zero_le _, rfl, fun j hj => absurd hj (by omega), 0, rfl⟩
  case round =>
    obtain ⟨k, rfl, hk, rfl, hj, nd, rfl⟩ := hrel
    have Hj := Lib.hid hj
    clear hj
    by_cases hlt : k < l.length
    · obtain ⟨b, off, rfl, -, hb, hc⟩ := H.out (by omega)
      have hc1 := hc k hlt
      clear hc
      generalize hv : l.getD k 0 = v at hc1
      have Hv := Lib.hid hv
      clear hv
      have hk1 : (0 : Int) ≤ k := by omega
      have hk2 : (k : Int) < l.length := by omega
      have hcon := hp nd v
      cases hx : p v
      · rw [hx] at hcon
        have Hx := Lib.hid hx
        clear hx
        go_wp2_with fail
        refine hcon.mono ?_
        clear hcon
        rintro e w1 ⟨rfl, n1, rfl⟩
        rw [World.drewN_drewN]
        go_wp2_with fail
        go_roundg (l.length - (k + 1))
        case measure => omega
        case rel =>
          refine ⟨k + 1, rfl, by omega, by go_num, fun j hj => ?_, _, rfl⟩
          by_cases e : j = k
          · subst e; rw [Hv.out]; exact Hx.out
          · exact Hj.out j (by omega)
      · rw [hx] at hcon
        have Hx := Lib.hid hx
        clear hx
        go_wp2_with fail
        refine hcon.mono ?_
        clear hcon
        rintro e w1 ⟨rfl, n1, rfl⟩
        rw [World.drewN_drewN]
        go_wp2_with fail
        go_ret
        exact ⟨k, rfl, by rw [any_at hlt (by rw [Hv.out]; exact Hx.out)]; simp, _, rfl⟩
    · have hk3 : k = l.length := by omega
      go_wp2_with fail
      go_ret
      exact ⟨-1, rfl, by rw [any_out (by rw [← hk3]; exact Hj.out)]; rfl, nd, rfl⟩
set_option maxHeartbeats 1000000 in
theorem containsFunc_0 (S : Nat → Prop) (w : World) (a : Option Addr) (c : Nat) (l : List Int) (p : Int → Bool) (cb : Value) (h : IntsAt S w a l)
    (hp : ∀ n u, Calls Tryz.prog 82 #[.int .i64 u, cb] (w.drewN n) (Drawn (w.drewN n) (.bool (p u)))) :
    Calls Tryz.prog 81 #[.slice a l.length c, .func (.func 82) #[] #[cb]] w (Drawn w (.bool (l.any p))) := by
  have hcon := indexFunc_0 S w a c l p cb h hp
  clear h hp
  go_enter Tryz.func81, Tryz.ntmps81
  go_wp2_with fail
  refine hcon.mono ?_
  clear hcon
  rintro e w' ⟨i, rfl, hi, n1, rfl⟩
  have Hi := Lib.hid hi
  clear hi
  go_wp2_with fail
  go_ret
  rw [← Hi.out]
  exact ⟨rfl, n1, rfl⟩

set_option maxHeartbeats 1000000 in
theorem indexFunc_1 (S : Nat → Prop) (w : World) (a : Option Addr) (c : Nat) (l : List Int) (p : Int → Bool) (cb cb2 : Value) (h : IntsAt S w a l)
    (hp : ∀ n u, Calls Tryz.prog 127 #[.int .i64 u, cb, cb2] (w.drewN n) (Drawn (w.drewN n) (.bool (p u)))) :
    Calls Tryz.prog 102 #[.slice a l.length c, .func (.func 127) #[] #[cb, cb2]] w (IdxFPost w l p) := by
  obtain ⟨hm, h⟩ := h
  have H := Lib.hid h
  clear h
  go_enter Tryz.func102, Tryz.ntmps102
  go_wp2_with fail
  go_loopg [8] l.length (fun g s8 wr => IdxRelF w l p g s8 wr)
  case atStart => exact ⟨0, rfl, Nat.zero_le _, rfl, fun j hj => absurd hj (by omega), 0, rfl⟩
  case round =>
    obtain ⟨k, rfl, hk, rfl, hj, nd, rfl⟩ := hrel
    have Hj := Lib.hid hj
    clear hj
    by_cases hlt : k < l.length
    · obtain ⟨b, off, rfl, -, hb, hc⟩ := H.out (by omega)
      have hc1 := hc k hlt
      clear hc
      generalize hv : l.getD k 0 = v at hc1
      have Hv := Lib.hid hv
      clear hv
      have hk1 : (0 : Int) ≤ k := by omega
      have hk2 : (k : Int) < l.length := by omega
      have hcon := hp nd v
      cases hx : p v
      · rw [hx] at hcon
        have Hx := Lib.hid hx
        clear hx
        go_wp2_with fail
        refine hcon.mono ?_
        clear hcon
        rintro e w1 ⟨rfl, n1, rfl⟩
        rw [World.drewN_drewN]
        go_wp2_with fail
        go_roundg (l.length - (k + 1))
        case measure => omega
        case rel =>
          refine ⟨k + 1, rfl, by omega, by go_num, fun j hj => ?_, _, rfl⟩
          by_cases e : j = k
          · subst e; rw [Hv.out]; exact Hx.out
          · exact Hj.out j (by omega)
      · rw [hx] at hcon
        have Hx := Lib.hid hx
        clear hx
        go_wp2_with fail
        refine hcon.mono ?_
        clear hcon
        rintro e w1 ⟨rfl, n1, rfl⟩
        rw [World.drewN_drewN]
        go_wp2_with fail
        go_ret
        exact ⟨k, rfl, by rw [any_at hlt (by rw [Hv.out]; exact Hx.out)]; simp, _, rfl⟩
    · have hk3 : k = l.length := by omega
      go_wp2_with fail
      go_ret
      exact ⟨-1, rfl, by rw [any_out (by rw [← hk3]; exact Hj.out)]; rfl, nd, rfl⟩
set_option maxHeartbeats 1000000 in
theorem containsFunc_1 (S : Nat → Prop) (w : World) (a : Option Addr) (c : Nat) (l : List Int) (p : Int → Bool) (cb cb2 : Value) (h : IntsAt S w a l)
    (hp : ∀ n u, Calls Tryz.prog 127 #[.int .i64 u, cb, cb2] (w.drewN n) (Drawn (w.drewN n) (.bool (p u)))) :
    Calls Tryz.prog 81 #[.slice a l.length c, .func (.func 127) #[] #[cb, cb2]] w (Drawn w (.bool (l.any p))) := by
  have hcon := indexFunc_1 S w a c l p cb cb2 h hp
  clear h hp
  go_enter Tryz.func81, Tryz.ntmps81
  go_wp2_with fail
  refine hcon.mono ?_
  clear hcon
  rintro e w' ⟨i, rfl, hi, n1, rfl⟩
  have Hi := Lib.hid hi
  clear hi
  go_wp2_with fail
  go_ret
  rw [← Hi.out]
  exact ⟨rfl, n1, rfl⟩
end Go.Proofs.YtghdhhbpbmhooaaGreat
