/- package state: Apply, whole (but for moves) -/
import Derived.Test.YtpiogibkleaaaaaGreatDoorSt9
namespace Go.Proofs.YtpiogibkleaaaaaGreatDoor
open Go.RowKit Esch Go.Shelf

theorem decOp_known {text : ByteArray} {r : OpS × List Mv} (h : decOp text = some r) : 0 < r.1.kind ∧ r.1.kind < 15 := by
  unfold decOp at h
  split at h
  · cases h
  split at h
  · rename_i hg
    cases h
    unfold goodV OpS.good at hg
    simp only [Bool.and_eq_true] at hg
    have h2 : knownB (decRaw text).1.1.kind = true := hg.1.1.1.1
    simpa [knownB] using h2
  · cases h
set_option maxRecDepth 100000 in
set_option maxHeartbeats 2000000 in
theorem stApply1_any (w : World) (b : Nat) (S : Nat → Prop) (s : StS) (h : SttAt w b S s) (hok : s.ok) (addr kind : Int) (text : ByteArray) (hts : text.size ≤ 9223372036854775807) (hf : FieldsAt w) (hS0 : ¬ S 0) (h13 : ∀ r, decOp text = some r → r.1.kind = 1) :
    Calls Tryz.prog 13 #[.pointer (some ⟨b, 0, none⟩), .int .i64 addr, .int .i64 kind, .string text] w (APost w b S (s.apply addr kind text)) := by
  unfold StS.apply
  by_cases hc : addr ≠ s.next ∨ 16384 ≤ addr ∨ (kind ≠ 1 ∧ kind ≠ 2)
  · rw [if_pos hc]
    exact apply_arg w b S s h addr kind text hc
  rw [if_neg hc]
  have ha : addr = s.next := Classical.not_not.1 fun h => hc (Or.inl h)
  have ha2 : addr < 16384 := by omega
  by_cases hk : kind = 2
  · rw [if_pos hk]
    subst hk
    exact apply_junk w b S s h hok addr text hts hf hS0 ha ha2
  rw [if_neg hk]
  have hk1 : kind = 1 := by omega
  subst hk1
  cases hd : decOp text with
  | none =>
    exact apply_none w b S s h hok addr text hts hf hS0 ha ha2 hd
  | some r =>
    obtain ⟨o, mv⟩ := r
    simp only
    by_cases hs : oseen s.o o.client o.seq = true
    · rw [if_pos hs]
      exact apply_seen w b S s h hok addr text hts hf hS0 ha ha2 o mv hd hs
    · rw [if_neg hs]
      have hs : oseen s.o o.client o.seq = false := by simpa using hs
      have hkn := decOp_known hd
      have hk13 := h13 _ hd
      simp only at hkn hk13
      have hl : s.h.m.length ≤ 100000 := by have := hok.hl; have := hok.n1; omega
      obtain ⟨s1, hs1⟩ : ∃ s1 : StS, s1 = { s with next := s.next + 1 } := ⟨_, rfl⟩
      have ht1 : s1.t = s.t := by rw [hs1]
      have hh1 : s1.h = s.h := by rw [hs1]
      rw [← hs1]
      have hcore := fun g hg eg d hdo => apply_does w b S s h hok addr text hts hf hS0 ha ha2 o mv hd hs g hg eg d hdo
      rw [← hs1] at hcore
      have h := hk13
      rw [show s1.does o mv addr = s1.tr ((s1.t.mk' o.path 1).run s1.t) by unfold StS.does; simp only [h]; rfl]
      exact hcore 69 (by rw [h]; rfl) (enters_of Tryz.func69 (by kernel_rfl) rfl) _ (fun W mp mc hW hin => name1_any W b S s1 hW (by rw [ht1]; exact hok.t) addr (o.withM mp mv.length mc) h)
end Go.Proofs.YtpiogibkleaaaaaGreatDoor
