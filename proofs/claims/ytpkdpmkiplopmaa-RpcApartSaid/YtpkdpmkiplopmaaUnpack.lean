import Derived.Test.YtpkdpmkiplopmaaShift
/- fields that are unpacked: package pack -/
namespace Go.Proofs.Ytpkdpmkiplopmaa
open Go.RowKit Esch

def sizedB (n : Nat) : Bool := n == 1 || n == 2 || n == 4 || n == 8
set_option maxHeartbeats 1000000 in
theorem sized_any (w : World) (n : Nat) : Calls Try.prog 73 #[.int .i64 n] w fun e w' => e = .returned (.bool (sizedB n)) ∧ w' = w := by
  by_cases h1 : n = 1
  · subst h1
    go_enter Try.func73, Try.ntmps73
    go_wp2_with fail
    go_ret
    exact ⟨rfl, rfl⟩
  · by_cases h2 : n = 2
    · subst h2
      go_enter Try.func73, Try.ntmps73
      go_wp2_with fail
      go_ret
      exact ⟨rfl, rfl⟩
    · by_cases h4 : n = 4
      · subst h4
        go_enter Try.func73, Try.ntmps73
        go_wp2_with fail
        go_ret
        exact ⟨rfl, rfl⟩
      · by_cases h8 : n = 8
        · subst h8
          go_enter Try.func73, Try.ntmps73
          go_wp2_with fail
          go_ret
          exact ⟨rfl, rfl⟩
        · go_enter Try.func73, Try.ntmps73
          go_wp2_with fail
          go_ret
          have e1 : ((n : Int) == 1) = false := by simp; omega
          have e2 : ((n : Int) == 2) = false := by simp; omega
          have e3 : ((n : Int) == 4) = false := by simp; omega
          have e4 : ((n : Int) == 8) = false := by simp; omega
          refine ⟨?_, rfl⟩
          rw [e1, e2, e3, e4]
          simp [sizedB, h1, h2, h4, h8]

structure UnpAt (w : World) (b : Nat) (s : ByteArray) (bad : Bool) : Prop where
  c0 : w.cell? ⟨b, 0, none⟩ = some (.string s)
  c1 : w.cell? ⟨b, 1, none⟩ = some (.bool bad)
  f0 : w.frozen? ⟨b, 0, none⟩ = false
  f1 : w.frozen? ⟨b, 1, none⟩ = false
  size : s.size ≤ 9223372036854775807
set_option maxHeartbeats 1000000 in
theorem open_any (w : World) (s : ByteArray) (hs : s.size ≤ 9223372036854775807) : Calls Try.prog 51 #[.string s] w fun e w' => ∃ b, e = .returned (.pointer (some ⟨b, 0, none⟩)) ∧ UnpAt w' b s false ∧ w.heap.size ≤ b ∧ Below w.heap.size w w' := by
  go_enter Try.func51, Try.ntmps51
  go_wp2_with fail
  go_ret
  exact ⟨w.heap.size, rfl, ⟨by go_simp, by go_simp, by go_simp, by go_simp, hs⟩, Nat.le_refl _, by (repeat (first | with_reducible exact (Below.refl _ _) | with_reducible refine Below.drew ?_ | with_reducible refine Esch.below_drewN ?_ _ | with_reducible refine Below.setCell ?_ (by first | omega | (simp; done) | (simp; omega)) _ | with_reducible refine Below.alloc ?_ (by first | omega | (simp; done) | (simp; omega)) _))⟩
set_option maxHeartbeats 1000000 in
theorem spoil_any (w : World) (b : Nat) (s : ByteArray) (bad : Bool) (h : UnpAt w b s bad) : Calls Try.prog 74 #[.pointer (some ⟨b, 0, none⟩)] w fun e w' => e = .returned (.tuple #[]) ∧ UnpAt w' b s true ∧ Mod (· = b) w w' := by
  obtain ⟨c0, c1, f0, f1, hs⟩ := h
  go_enter Try.func74, Try.ntmps74
  go_wp2_with fail
  go_end0
  exact ⟨rfl, ⟨by go_simp, by go_simp, by go_simp, by go_simp, hs⟩, (Mod.refl (· = b) w).setCellAt (fun _ => rfl) _⟩
set_option maxHeartbeats 1000000 in
theorem take_bad (w : World) (b : Nat) (s : ByteArray) (bad : Bool) (n : Nat) (h : UnpAt w b s bad) (hb : bad = true ∨ s.size < n) : Calls Try.prog 75 #[.pointer (some ⟨b, 0, none⟩), .int .i64 n] w fun e w' => e = .returned (.tuple #[.string ⟨#[]⟩, .bool false]) ∧ UnpAt w' b s true ∧ Mod (· = b) w w' := by
  have hsp := spoil_any w b s bad h
  obtain ⟨c0, c1, f0, f1, hs⟩ := h
  cases bad
  · have hb' : s.size < n := by simpa using hb
    clear hb
    go_enter Try.func75, Try.ntmps75
    go_wp2_with fail
    refine hsp.mono ?_
    clear hsp
    rintro e w1 ⟨rfl, hU, hM⟩
    go_wp2_with fail
    go_ret2
    exact ⟨rfl, hU, hM⟩
  · clear hb
    go_enter Try.func75, Try.ntmps75
    go_wp2_with fail
    refine hsp.mono ?_
    clear hsp
    rintro e w1 ⟨rfl, hU, hM⟩
    go_wp2_with fail
    go_ret2
    exact ⟨rfl, hU, hM⟩
set_option maxHeartbeats 1000000 in
theorem take_ok (w : World) (b : Nat) (s : ByteArray) (n : Nat) (h : UnpAt w b s false) (hb : n ≤ s.size) : Calls Try.prog 75 #[.pointer (some ⟨b, 0, none⟩), .int .i64 n] w fun e w' => e = .returned (.tuple #[.string (s.extract 0 n), .bool true]) ∧ UnpAt w' b (s.extract n s.size) false ∧ Mod (· = b) w w' := by
  obtain ⟨c0, c1, f0, f1, hs⟩ := h
  go_enter Try.func75, Try.ntmps75
  go_wp2_with fail
  go_ret2
  exact ⟨rfl, ⟨by go_simp, by go_simp, by go_simp, by go_simp, by rw [ByteArray.size_extract]; omega⟩, (Mod.refl (· = b) w).setCellAt (fun _ => rfl) _⟩
/-- the next number of so many bytes -/
def unNum (s : ByteArray) (bad : Bool) (n : Nat) : Nat × ByteArray × Bool :=
  if bad = true ∨ s.size < n then (0, s, true) else if 9223372036854775808 ≤ getB (cutB s 0 n) then (0, s.extract n s.size, true) else (getB (cutB s 0 n), s.extract n s.size, false)
theorem cutB_extract (s : ByteArray) (n : Nat) : cutB (s.extract 0 n) 0 n = cutB s 0 n := by
  simp [cutB, ByteArray.data_extract, List.take_take]
theorem extract_size (s : ByteArray) (n : Nat) (h : n ≤ s.size) : (s.extract 0 n).size = n := by rw [ByteArray.size_extract]; omega
def NumPost (w : World) (b : Nat) (r : Nat × ByteArray × Bool) (e : Ending) (w' : World) : Prop := e = .returned (.int .i64 r.1) ∧ UnpAt w' b r.2.1 r.2.2 ∧ Mod (· = b) w w'
set_option maxRecDepth 100000 in
set_option maxHeartbeats 1000000 in
theorem unNum_any (w : World) (b : Nat) (s : ByteArray) (bad : Bool) (n : Nat) (hn : sizedB n = true) (h : UnpAt w b s bad) :
    Calls Try.prog 52 #[.pointer (some ⟨b, 0, none⟩), .int .i64 n] w (NumPost w b (unNum s bad n)) := by
  have hsz := sized_any w n
  rw [hn] at hsz
  have h8 : n ≤ 8 := by simp only [sizedB, Bool.or_eq_true, beq_iff_eq] at hn; omega
  clear hn
  by_cases hb : bad = true ∨ s.size < n
  · have htk := take_bad w b s bad n h hb
    rw [show unNum s bad n = (0, s, true) from if_pos hb]
    clear hb h
    go_enter Try.func52, Try.ntmps52
    go_wp2_with fail
    refine hsz.mono ?_
    clear hsz
    rintro e w0 ⟨rfl, rfl⟩
    go_wp2_with fail
    refine htk.mono ?_
    clear htk
    rintro e w1 ⟨rfl, hU, hM⟩
    have hg := shiftGet_any w1 ⟨#[]⟩ (by decide) 0 0 (by decide) (by decide)
    unfold GetPost at hg
    rw [if_pos ⟨by decide, by decide, by decide⟩] at hg
    have hsp := spoil_any w1 b s true hU
    go_wp2_with fail
    refine hg.mono ?_
    clear hg
    rintro e w2 ⟨rfl, rfl⟩
    go_wp2_with fail
    refine hsp.mono ?_
    clear hsp
    rintro e w3 ⟨rfl, hU3, hM3⟩
    go_wp2_with fail
    go_ret
    exact ⟨rfl, hU3, hM.trans hM3⟩
  · obtain rfl : bad = false := by cases bad; rfl; exact absurd (Or.inl rfl) hb
    have hle : n ≤ s.size := by have := fun h => hb (Or.inr h); omega
    have htk := take_ok w b s n h hle
    have hex := extract_size s n hle
    have hcu := cutB_extract s n
    have hgg := fun W => shiftGet_any W (s.extract 0 n) (by omega) 0 n (by omega) (by omega)
    unfold GetPost at hgg
    rw [if_pos ⟨h8, by omega, by omega⟩, hcu] at hgg
    have hlt : getB (cutB s 0 n) < 18446744073709551616 := by
      refine Nat.lt_of_lt_of_le (getB_lt _) ?_
      have : (cutB s 0 n).length ≤ 8 := by unfold cutB; have := List.length_take_le n (s.data.toList.drop 0); omega
      exact Nat.le_trans (Nat.pow_le_pow_right (by decide) this) (by decide)
    unfold unNum
    rw [if_neg hb]
    generalize getB (cutB s 0 n) = v at hgg hlt ⊢
    generalize s.extract 0 n = s0 at htk hgg hex
    clear hb h hcu hle
    by_cases hv : 9223372036854775808 ≤ v
    · rw [if_pos hv]
      have Hv := Lib.hid hv
      have Hlt := Lib.hid hlt
      have hq : (v : Int) / 9223372036854775808 = 1 := by omega
      clear hv hlt
      go_enter Try.func52, Try.ntmps52
      go_wp2_with fail
      refine hsz.mono ?_
      clear hsz
      rintro e w0 ⟨rfl, rfl⟩
      go_wp2_with fail
      refine htk.mono ?_
      clear htk
      rintro e w1 ⟨rfl, hU, hM⟩
      have hg := hgg w1
      have hsp := spoil_any w1 b _ _ hU
      go_wp2_with fail
      refine hg.mono ?_
      clear hg
      rintro e w2 ⟨rfl, rfl⟩
      go_wp2_with fail
      refine hsp.mono ?_
      clear hsp
      rintro e w3 ⟨rfl, hU3, hM3⟩
      go_wp2_with fail
      go_ret
      exact ⟨rfl, hU3, hM.trans hM3⟩
    · rw [if_neg hv]
      have hv' : v < 9223372036854775808 := by omega
      have Hlt := Lib.hid hlt
      have Hv := Lib.hid hv'
      have hq : (v : Int) / 9223372036854775808 = 0 := by omega
      clear hv hlt hv'
      go_enter Try.func52, Try.ntmps52
      go_wp2_with fail
      refine hsz.mono ?_
      clear hsz
      rintro e w0 ⟨rfl, rfl⟩
      go_wp2_with fail
      refine htk.mono ?_
      clear htk
      rintro e w1 ⟨rfl, hU, hM⟩
      have hg := hgg w1
      go_wp2_with fail
      refine hg.mono ?_
      clear hg
      rintro e w2 ⟨rfl, rfl⟩
      go_wp2_with fail
      go_ret
      exact ⟨rfl, hU, hM⟩
set_option maxHeartbeats 1000000 in
theorem unEnd_any (w : World) (b : Nat) (s : ByteArray) (bad : Bool) (h : UnpAt w b s bad) :
    Calls Try.prog 53 #[.pointer (some ⟨b, 0, none⟩)] w fun e w' => e = .returned (.int .i64 (if bad = true ∨ 0 < s.size then 11 else 0)) ∧ w' = w := by
  obtain ⟨c0, c1, f0, f1, hs⟩ := h
  cases bad
  · by_cases h0 : 0 < s.size
    · rw [if_pos (Or.inr h0)]
      go_enter Try.func53, Try.ntmps53
      go_wp2_with fail
      go_ret
      exact ⟨rfl, rfl⟩
    · rw [if_neg (fun h => h.elim (fun e => by cases e) h0)]
      have h0' : s.size = 0 := by omega
      go_enter Try.func53, Try.ntmps53
      go_wp2_with fail
      go_ret
      exact ⟨rfl, rfl⟩
  · rw [if_pos (Or.inl rfl)]
    go_enter Try.func53, Try.ntmps53
    go_wp2_with fail
    go_ret
    exact ⟨rfl, rfl⟩
end Go.Proofs.Ytpkdpmkiplopmaa
