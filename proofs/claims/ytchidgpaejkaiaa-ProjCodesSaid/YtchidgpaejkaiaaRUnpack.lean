import Derived.Test.YtchidgpaejkaiaaUnpack
import Derived.Test.YtchidgpaejkaiaaShift2
import Derived.Test.YtchidgpaejkaiaaRPack
/- fields that are unpacked: the document's -/
namespace Go.Proofs.Ytchidgpaejkaiaa
open Go.RowKit Esch

structure UnR (w : World) (b : Nat) (s : ByteArray) (a : Nat) (bad : Bool) : Prop where
  c0 : w.cell? ⟨b, 0, none⟩ = some (.string s)
  c1 : w.cell? ⟨b, 1, none⟩ = some (.int .i64 a)
  c2 : w.cell? ⟨b, 2, none⟩ = some (.bool bad)
  f1 : w.frozen? ⟨b, 1, none⟩ = false
  f2 : w.frozen? ⟨b, 2, none⟩ = false
  le : a ≤ s.size
  size : s.size ≤ 9223372036854775807
theorem UnR.mod {F : Nat → Prop} {w w' : World} {b : Nat} {s : ByteArray} {a : Nat} {bad : Bool} (h : UnR w b s a bad) (hM : Mod F w w') (hb : ¬ F b) : UnR w' b s a bad :=
  ⟨hM.at h.c0 hb, hM.at h.c1 hb, hM.at h.c2 hb, (hM.frozen (p := ⟨b, 1, none⟩) (cell_lt h.c0) hb).trans h.f1, (hM.frozen (p := ⟨b, 2, none⟩) (cell_lt h.c0) hb).trans h.f2, h.le, h.size⟩
set_option maxHeartbeats 1000000 in
theorem ropen_any (w : World) (s : ByteArray) (hs : s.size ≤ 9223372036854775807) : Calls Try.prog 56 #[.string s] w fun e w' => ∃ b, e = .returned (.pointer (some ⟨b, 0, none⟩)) ∧ UnR w' b s 0 false ∧ w.heap.size ≤ b ∧ Below w.heap.size w w' := by
  go_enter Try.func56, Try.ntmps56
  go_wp2_with fail
  go_ret
  exact ⟨w.heap.size, rfl, ⟨by go_simp, by go_simp, by go_simp, by go_simp, by go_simp, Nat.zero_le _, hs⟩, Nat.le_refl _, by (repeat (first | with_reducible exact (Below.refl _ _) | with_reducible refine Below.drew ?_ | with_reducible refine Esch.below_drewN ?_ _ | with_reducible refine Below.setCell ?_ (by first | omega | (simp; done) | (simp; omega)) _ | with_reducible refine Below.alloc ?_ (by first | omega | (simp; done) | (simp; omega)) _))⟩
/-- the next number of so many bytes -/
def rNum (s : ByteArray) (a : Nat) (bad : Bool) (n : Nat) : Nat × Nat × Bool :=
  if bad = true ∨ s.size - a < n then (0, a, true) else if 9223372036854775808 ≤ getB (cutB s a n) then (0, a, true) else (getB (cutB s a n), a + n, false)
def NumPostR (w : World) (b : Nat) (s : ByteArray) (r : Nat × Nat × Bool) (e : Ending) (w' : World) : Prop := e = .returned (.int .i64 r.1) ∧ UnR w' b s r.2.1 r.2.2 ∧ Mod (· = b) w w'
theorem cutB_lt (s : ByteArray) (a n : Nat) (hn : n ≤ 8) : getB (cutB s a n) < 18446744073709551616 := by
  refine Nat.lt_of_lt_of_le (getB_lt _) ?_
  have : (cutB s a n).length ≤ 8 := by unfold cutB; have := List.length_take_le n (s.data.toList.drop a); omega
  exact Nat.le_trans (Nat.pow_le_pow_right (by decide) this) (by decide)
set_option maxRecDepth 100000 in
set_option maxHeartbeats 1000000 in
theorem rNum_any (w : World) (b : Nat) (s : ByteArray) (a : Nat) (bad : Bool) (n : Nat) (hn : n = 1 ∨ n = 2 ∨ n = 4 ∨ n = 8) (h : UnR w b s a bad) :
    Calls Try.prog 57 #[.pointer (some ⟨b, 0, none⟩), .int .i64 n] w (NumPostR w b s (rNum s a bad n)) := by
  have hsz := fun W => rsize_any W n hn
  have hgt := rGet_any w.drew s h.size a n (by have := h.le; have := h.size; omega) (by omega)
  have hn8 : n ≤ 8 := by omega
  have hle := h.le
  have hs := h.size
  obtain ⟨c0, c1, c2, f1, f2, -, -⟩ := h
  have hbl : b < w.heap.size := cell_lt c0
  unfold GetPost at hgt
  have hlt := cutB_lt s a n hn8
  unfold rNum
  have hKd : World.cell? w.drew ⟨b, 0, none⟩ = some (.string s) ∧ World.cell? w.drew ⟨b, 1, none⟩ = some (.int .i64 a) ∧ World.cell? w.drew ⟨b, 2, none⟩ = some (.bool bad) := ⟨c0, c1, c2⟩
  by_cases hbad : bad = true
  · subst hbad
    rw [if_pos (Or.inl rfl)]
    generalize hrr : (if n ≤ 8 ∧ a ≤ s.size ∧ n ≤ s.size - a then Value.tuple #[.int .u64 (getB (cutB s a n)), .bool true] else .tuple #[.int .u64 0, .bool false]) = rr at hgt
    obtain ⟨gv, go, rfl⟩ : ∃ gv go, rr = .tuple #[.int .u64 gv, .bool go] := by
      rw [← hrr]; split
      · exact ⟨_, _, rfl⟩
      · exact ⟨_, _, rfl⟩
    clear hrr hlt
    go_enter Try.func57, Try.ntmps57
    go_wp2_with fail
    go_region_held3 (fun W' => W'.cell? ⟨b, 0, none⟩ = some (.string s) ∧ W'.cell? ⟨b, 1, none⟩ = some (.int .i64 a) ∧ W'.cell? ⟨b, 2, none⟩ = some (.bool true))
      (with_reducible exact hKd)
      (first | (go_at_call 75; (with_reducible refine hgt.mono ?_); rintro e w9 ⟨rfl, rfl⟩))
    go_wp2_with fail
    go_ret
    exact ⟨rfl, ⟨by go_simp, by go_simp, by go_simp, by go_simp, by go_simp, hle, hs⟩, by (repeat' (first | (with_reducible exact (Mod.refl _ _)) | (with_reducible apply Mod.drew) | (with_reducible apply Mod.drewN) | (with_reducible apply Mod.alloc) | (with_reducible apply Mod.setCellAt) | (intro _; first | rfl | exact Or.inl rfl | exact Or.inr rfl) | (intro h; exfalso; omega)))⟩
  · obtain rfl : bad = false := by cases bad; rfl; exact absurd rfl hbad
    by_cases hsh : s.size - a < n
    · rw [if_pos (Or.inr hsh)]
      rw [if_neg (by rintro ⟨-, -, h⟩; omega)] at hgt
      clear hn hbad hsh hlt
      go_enter Try.func57, Try.ntmps57
      go_wp2_with fail
      go_region_held3 (fun W' => W'.cell? ⟨b, 0, none⟩ = some (.string s) ∧ W'.cell? ⟨b, 1, none⟩ = some (.int .i64 a) ∧ W'.cell? ⟨b, 2, none⟩ = some (.bool false))
        (with_reducible exact hKd)
        (first | (go_at_call 75; (with_reducible refine hgt.mono ?_); rintro e w9 ⟨rfl, rfl⟩))
      go_wp2_with fail
      refine (hsz _).mono ?_
      rintro e w8 ⟨rfl, rfl⟩
      go_wp2_with fail
      go_ret
      exact ⟨rfl, ⟨by go_simp, by go_simp, by go_simp, by go_simp, by go_simp, hle, hs⟩, by (repeat' (first | (with_reducible exact (Mod.refl _ _)) | (with_reducible apply Mod.drew) | (with_reducible apply Mod.drewN) | (with_reducible apply Mod.alloc) | (with_reducible apply Mod.setCellAt) | (intro _; first | rfl | exact Or.inl rfl | exact Or.inr rfl) | (intro h; exfalso; omega)))⟩
    · rw [if_neg (fun h => h.elim (fun e => by cases e) hsh)]
      rw [if_pos ⟨hn8, hle, by omega⟩] at hgt
      generalize getB (cutB s a n) = v at hgt hlt ⊢
      by_cases hv : 9223372036854775808 ≤ v
      · rw [if_pos hv]
        have hvi : (9223372036854775808 : Int) ≤ v := by omega
        clear hn hbad hsh hlt
        go_enter Try.func57, Try.ntmps57
        go_wp2_with fail
        go_region_held3 (fun W' => W'.cell? ⟨b, 0, none⟩ = some (.string s) ∧ W'.cell? ⟨b, 1, none⟩ = some (.int .i64 a) ∧ W'.cell? ⟨b, 2, none⟩ = some (.bool false))
          (with_reducible exact hKd)
          (first | (go_at_call 75; (with_reducible refine hgt.mono ?_); rintro e w9 ⟨rfl, rfl⟩))
        go_wp2_with fail
        refine (hsz _).mono ?_
        rintro e w8 ⟨rfl, rfl⟩
        go_wp2_with fail
        go_ret
        exact ⟨rfl, ⟨by go_simp, by go_simp, by go_simp, by go_simp, by go_simp, hle, hs⟩, by (repeat' (first | (with_reducible exact (Mod.refl _ _)) | (with_reducible apply Mod.drew) | (with_reducible apply Mod.drewN) | (with_reducible apply Mod.alloc) | (with_reducible apply Mod.setCellAt) | (intro _; first | rfl | exact Or.inl rfl | exact Or.inr rfl) | (intro h; exfalso; omega)))⟩
      · rw [if_neg hv]
        have hq : (v : Int) / 9223372036854775808 = 0 := by omega
        have hvn : decide ((9223372036854775808 : Int) ≤ (v : Int)) = false := by simp; omega
        obtain ⟨ai, hai⟩ : ∃ ai : Int, ai = a := ⟨_, rfl⟩
        obtain ⟨ni, hni⟩ : ∃ ni : Int, ni = n := ⟨_, rfl⟩
        have ha0 : 0 ≤ ai := by omega
        have hn0 : 0 ≤ ni := by omega
        have han : ai + ni ≤ 9223372036854775807 := by omega
        rw [← hai] at c1 hKd hgt
        rw [← hni] at hgt hsz
        rw [← hni]
        have Hai := Lib.hid hai
        have Hni := Lib.hid hni
        have Hsh := Lib.hid hsh
        have Hv := Lib.hid hv
        clear hn hbad hsh hlt hv hai hni
        go_enter Try.func57, Try.ntmps57
        go_wp2_with fail
        go_region_held3 (fun W' => W'.cell? ⟨b, 0, none⟩ = some (.string s) ∧ W'.cell? ⟨b, 1, none⟩ = some (.int .i64 ai) ∧ W'.cell? ⟨b, 2, none⟩ = some (.bool false))
          (with_reducible exact hKd)
          (first | (go_at_call 75; (with_reducible refine hgt.mono ?_); rintro e w9 ⟨rfl, rfl⟩))
        go_wp2_with fail
        refine (hsz _).mono ?_
        rintro e w8 ⟨rfl, rfl⟩
        go_wp2_with fail
        go_ret
        have hfin : ai + ni = ((a + n : Nat) : Int) := by rw [Hai.out, Hni.out]; omega
        exact ⟨rfl, ⟨by go_simp, by rw [← hfin]; go_simp, by go_simp, by go_simp, by go_simp, show a + n ≤ s.size by have := Hsh.out; omega, hs⟩, by (repeat' (first | (with_reducible exact (Mod.refl _ _)) | (with_reducible apply Mod.drew) | (with_reducible apply Mod.drewN) | (with_reducible apply Mod.alloc) | (with_reducible apply Mod.setCellAt) | (intro _; first | rfl | exact Or.inl rfl | exact Or.inr rfl) | (intro h; exfalso; omega)))⟩
set_option maxHeartbeats 1000000 in
theorem rEnd_any (w : World) (b : Nat) (s : ByteArray) (a : Nat) (bad : Bool) (h : UnR w b s a bad) :
    Calls Try.prog 58 #[.pointer (some ⟨b, 0, none⟩)] w fun e w' => e = .returned (.int .i64 (if bad = true ∨ a ≠ s.size then 11 else 0)) ∧ Mod none' w w' := by
  obtain ⟨c0, c1, c2, f1, f2, hle, hs⟩ := h
  have hKd : World.cell? w.drew ⟨b, 0, none⟩ = some (.string s) ∧ World.cell? w.drew ⟨b, 1, none⟩ = some (.int .i64 a) ∧ World.cell? w.drew ⟨b, 2, none⟩ = some (.bool bad) := ⟨c0, c1, c2⟩
  cases bad
  · by_cases h0 : a = s.size
    · rw [if_neg (fun h => h.elim (fun e => by cases e) (fun e => e h0))]
      subst h0
      go_enter Try.func58, Try.ntmps58
      go_wp2_with fail
      go_region_held3 (fun W' => W'.cell? ⟨b, 0, none⟩ = some (.string s) ∧ W'.cell? ⟨b, 1, none⟩ = some (.int .i64 s.size) ∧ W'.cell? ⟨b, 2, none⟩ = some (.bool false)) (with_reducible exact hKd) (fail)
      go_wp2_with fail
      go_ret
      exact ⟨rfl, by (repeat' (first | (with_reducible exact (Mod.refl _ _)) | (with_reducible apply Mod.drew) | (with_reducible apply Mod.drewN) | (with_reducible apply Mod.alloc) | (with_reducible apply Mod.setCellAt) | (intro _; first | rfl | exact Or.inl rfl | exact Or.inr rfl) | (intro h; exfalso; omega)))⟩
    · rw [if_pos (Or.inr h0)]
      have hne : ((a : Int) != (s.size : Int)) = true := by simp; omega
      go_enter Try.func58, Try.ntmps58
      go_wp2_with fail
      go_region_held3 (fun W' => W'.cell? ⟨b, 0, none⟩ = some (.string s) ∧ W'.cell? ⟨b, 1, none⟩ = some (.int .i64 a) ∧ W'.cell? ⟨b, 2, none⟩ = some (.bool false)) (with_reducible exact hKd) (fail)
      go_wp2_with fail
      go_ret
      exact ⟨rfl, by (repeat' (first | (with_reducible exact (Mod.refl _ _)) | (with_reducible apply Mod.drew) | (with_reducible apply Mod.drewN) | (with_reducible apply Mod.alloc) | (with_reducible apply Mod.setCellAt) | (intro _; first | rfl | exact Or.inl rfl | exact Or.inr rfl) | (intro h; exfalso; omega)))⟩
  · rw [if_pos (Or.inl rfl)]
    go_enter Try.func58, Try.ntmps58
    go_wp2_with fail
    go_quiet (fail)
    go_wp2_with fail
    go_ret
    exact ⟨rfl, by (repeat' (first | (with_reducible exact (Mod.refl _ _)) | (with_reducible apply Mod.drew) | (with_reducible apply Mod.drewN) | (with_reducible apply Mod.alloc) | (with_reducible apply Mod.setCellAt) | (intro _; first | rfl | exact Or.inl rfl | exact Or.inr rfl) | (intro h; exfalso; omega)))⟩
end Go.Proofs.Ytchidgpaejkaiaa
