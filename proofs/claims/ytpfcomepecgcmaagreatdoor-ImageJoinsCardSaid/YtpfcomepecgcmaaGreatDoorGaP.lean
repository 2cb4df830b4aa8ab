/- pieces that are put together again: plainly -/
import Derived.Test.YtpfcomepecgcmaaGreatDoorGa2
import Derived.Test.YtpfcomepecgcmaaGreatDoorPkWk
namespace Esch
open Go Go.RowKit
def gaUp (s : ByteArray) (c : Int) (i : Nat) : GaS := if i = 0 then ga0 else ⟨s.extract 0 (min (1024 * i) s.size), c, s.size⟩
theorem ext_join (s : ByteArray) (a b : Nat) (h : a ≤ b) : s.extract 0 a ++ s.extract a b = s.extract 0 b := by
  rw [ByteArray.ext_iff, ByteArray.data_append, ByteArray.data_extract, ByteArray.data_extract, ByteArray.data_extract, Array.extract_append_extract, Nat.min_eq_left (Nat.zero_le _), Nat.max_eq_right h]
theorem ext_whole (s : ByteArray) : s.extract 0 s.size = s := by
  rw [ByteArray.ext_iff, ByteArray.data_extract]
  show s.data.extract 0 s.data.size = s.data
  simp
theorem piece_size (s : ByteArray) (c q : Int) (i : Nat) (hi : 1024 * i < s.size) : (pcRow s c q i).data.size = min (1024 * i + 1024) s.size - 1024 * i := by
  show (s.extract (1024 * i) (min (1024 * i + 1024) s.size)).size = _
  rw [ByteArray.size_extract]
  omega
theorem piece_good (s : ByteArray) (c q : Int) (i : Nat) (hi : 1024 * i < s.size) (hs : s.size ≤ 65536) (hc0 : 0 ≤ c) (hc8 : c < 8) (hq0 : 1 ≤ q) (hq : q ≤ 1000000) : (pcRow s c q i).good [] = true := by
  have hz := piece_size s c q i hi
  have hd : 1 ≤ (pcRow s c q i).data.size ∧ (pcRow s c q i).data.size ≤ 1024 ∧ (pcRow s c q i).data.size + 1024 * i ≤ s.size := by omega
  have hal : (pcRow s c q i).alike (pcRow s c q i).kept = true := by
    simp [OpS.alike, OpS.kept, pcRow, fldL, OpS.put, opN]
  have hf : (pcRow s c q i).form [] = true := by
    show (winB (pcRow s c q i).data.size 1 1024 && winB (s.size : Int) 1 65536 && winB ((1024 * i : Nat) : Int) 0 ((s.size : Int) - (pcRow s c q i).data.size)) = true
    simp only [winB, Bool.and_eq_true, decide_eq_true_eq]
    omega
  unfold OpS.good
  rw [hf, hal]
  show (knownB 14 && winB c 0 7 && winB (q + i) 1 2147483647 && true && true) = true
  simp only [winB, knownB, Bool.and_true, Bool.and_eq_true, decide_eq_true_eq]
  omega
theorem join_yes (s : ByteArray) (c q : Int) (i : Nat) (hi : 1024 * i < s.size) (hs : s.size ≤ 65536) (hc0 : 0 ≤ c) (hc8 : c < 8) (hq0 : 1 ≤ q) (hq : q ≤ 1000000) :
    ¬ (gaUp s c i).no (pcRow s c q i) [] ∧ (gaUp s c i).put (pcRow s c q i) = gaUp s c (i + 1) := by
  have hz := piece_size s c q i hi
  have hu : gaUp s c (i + 1) = ⟨s.extract 0 (min (1024 * (i + 1)) s.size), c, s.size⟩ := if_neg (by omega)
  have hj : s.extract 0 (1024 * i) ++ s.extract (1024 * i) (min (1024 * i + 1024) s.size) = s.extract 0 (min (1024 * (i + 1)) s.size) := by
    rw [ext_join _ _ _ (by omega), show 1024 * (i + 1) = 1024 * i + 1024 by omega]
  rw [hu]
  unfold GaS.no GaS.put
  rw [piece_good s c q i hi hs hc0 hc8 hq0 hq]
  by_cases h0 : i = 0
  · subst h0
    rw [show gaUp s c 0 = ga0 from rfl]
    refine ⟨?_, ?_⟩
    · simp [pcRow, ga0]
      try rfl
    · have h00 : s.extract 0 (1024 * 0) = ⟨#[]⟩ := by rw [ByteArray.ext_iff, ByteArray.data_extract]; simp
      rw [← hj, h00]
      rfl
  · have he : gaUp s c i = ⟨s.extract 0 (min (1024 * i) s.size), c, s.size⟩ := if_neg h0
    have hsz : (s.extract 0 (min (1024 * i) s.size)).size = 1024 * i := by rw [ByteArray.size_extract]; omega
    rw [he]
    refine ⟨?_, ?_⟩
    · simp [pcRow, hsz]
      try omega
    · rw [Nat.min_eq_left (by omega : 1024 * i ≤ s.size)]
      show (⟨_ ++ _, c, _⟩ : GaS) = _
      rw [← hj]
      rfl
theorem join_mid (s : ByteArray) (c : Int) (i : Nat) (hi : 1024 * i < s.size) : (gaUp s c i).text.2 = false := by
  unfold GaS.text gaUp
  by_cases h0 : i = 0
  · rw [if_pos h0]; rfl
  · rw [if_neg h0]
    have hsz : (s.extract 0 (min (1024 * i) s.size)).size = 1024 * i := by rw [ByteArray.size_extract]; omega
    simp only [hsz]
    rw [if_pos (by omega)]
theorem gaUp_end (s : ByteArray) (c : Int) (n : Nat) (hn : n = (s.size + 1023) / 1024) (h0 : 1 ≤ s.size) : gaUp s c n = ⟨s, c, s.size⟩ := by
  unfold gaUp
  rw [if_neg (by omega), Nat.min_eq_right (show s.size ≤ 1024 * n by omega), ext_whole]
theorem join_end (s : ByteArray) (c : Int) (n : Nat) (hn : n = (s.size + 1023) / 1024) (h0 : 1 ≤ s.size) : (gaUp s c n).text = (s, true) := by
  rw [gaUp_end s c n hn h0]
  unfold GaS.text
  rw [if_neg (by simp only; omega)]
theorem join_over (s : ByteArray) (c : Int) (n : Nat) (hn : n = (s.size + 1023) / 1024) (h0 : 1 ≤ s.size) (x : OpS) (mv : List Mv) : (gaUp s c n).no x mv := by
  rw [gaUp_end s c n hn h0]
  unfold GaS.no
  exact Or.inr (Or.inr (Or.inr ⟨by show (0 : Int) < s.size; omega, Or.inl rfl⟩))
theorem join_other (s : ByteArray) (c : Int) (i : Nat) (h0 : 0 < i) (hs : 1 ≤ s.size) (x : OpS) (mv : List Mv) (h : x.client ≠ c ∨ x.kind ≠ 14) : (gaUp s c i).no x mv := by
  unfold GaS.no gaUp
  rw [if_neg (by omega)]
  rcases h with h | h
  · exact Or.inr (Or.inr (Or.inr ⟨by show (0 : Int) < s.size; omega, Or.inr (Or.inl h)⟩))
  · exact Or.inl h
end Esch
