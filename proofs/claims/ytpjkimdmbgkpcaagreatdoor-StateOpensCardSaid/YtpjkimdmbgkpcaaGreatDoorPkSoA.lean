import Derived.Test.YtpjkimdmbgkpcaaGreatDoorSt9
import Derived.Test.YtpjkimdmbgkpcaaGreatDoorR9
import Derived.Test.YtpjkimdmbgkpcaaGreatDoorTree7
import Derived.Test.YtpjkimdmbgkpcaaGreatDoorTexts
/- package state: Apply, whole (but for moves) -/
namespace Go.Proofs.YtpjkimdmbgkpcaaGreatDoor
open Go.RowKit Esch Go.Shelf

theorem decOp_known {text : ByteArray} {r : OpS × List Mv} (h : decOp text = some r) : 0 < r.1.kind ∧ r.1.kind < 15 := by
  unfold decOp at h
  split at h
  · cases h
  split at h
  · rename_i hg
    cases h
    unfold goodV OpS.good at hg
    simp only [Bool.and_eq_true] at hg
    have h2 : knownB (decRaw text).1.1.kind = true := hg.1.1.1.1
    simpa [knownB] using h2
  · cases h
set_option maxRecDepth 100000 in
set_option maxHeartbeats 2000000 in
theorem stApply_any (w : World) (b : Nat) (S : Nat → Prop) (s : StS) (h : SttAt w b S s) (hok : s.ok) (addr kind : Int) (text : ByteArray) (hts : text.size ≤ 9223372036854775807) (hf : FieldsAt w) (hS0 : ¬ S 0) (h13 : ∀ r, decOp text = some r → r.1.kind ≠ 13) :
    Calls Tryz.prog 16 #[.pointer (some ⟨b, 0, none⟩), .int .i64 addr, .int .i64 kind, .string text] w (APost w b S (s.apply addr kind text)) := by
  unfold StS.apply
  by_cases hc : addr ≠ s.next ∨ 16384 ≤ addr ∨ (kind ≠ 1 ∧ kind ≠ 2)
  · rw [if_pos hc]
    exact apply_arg w b S s h addr kind text hc
  rw [if_neg hc]
  have ha : addr = s.next := Classical.not_not.1 fun h => hc (Or.inl h)
  have ha2 : addr < 16384 := by omega
  by_cases hk : kind = 2
  · rw [if_pos hk]
    subst hk
    exact apply_junk w b S s h hok addr text hts hf hS0 ha ha2
  rw [if_neg hk]
  have hk1 : kind = 1 := by omega
  subst hk1
  cases hd : decOp text with
  | none =>
    exact apply_none w b S s h hok addr text hts hf hS0 ha ha2 hd
  | some r =>
    obtain ⟨o, mv⟩ := r
    simp only
    by_cases hs : oseen s.o o.client o.seq = true
    · rw [if_pos hs]
      exact apply_seen w b S s h hok addr text hts hf hS0 ha ha2 o mv hd hs
    · rw [if_neg hs]
      have hs : oseen s.o o.client o.seq = false := by simpa using hs
      have hkn := decOp_known hd
      have hk13 := h13 _ hd
      simp only at hkn hk13
      have hl : s.h.m.length ≤ 100000 := by have := hok.hl; have := hok.n1; omega
      have h14 : o.kind = 1 ∨ o.kind = 2 ∨ o.kind = 3 ∨ o.kind = 4 ∨ o.kind = 5 ∨ o.kind = 6 ∨ o.kind = 7 ∨ o.kind = 8 ∨ o.kind = 9 ∨ o.kind = 10 ∨ o.kind = 11 ∨ o.kind = 12 ∨ o.kind = 14 := by omega
      obtain ⟨s1, hs1⟩ : ∃ s1 : StS, s1 = { s with next := s.next + 1 } := ⟨_, rfl⟩
      have ht1 : s1.t = s.t := by rw [hs1]
      have hh1 : s1.h = s.h := by rw [hs1]
      rw [← hs1]
      have hcore := fun g hg eg d hdo => apply_does w b S s h hok addr text hts hf hS0 ha ha2 o mv hd hs g hg eg d hdo
      rw [← hs1] at hcore
      rcases h14 with h | h | h | h | h | h | h | h | h | h | h | h | h
      · rw [show s1.does o mv addr = s1.tr ((s1.t.mk' o.path 1).run s1.t) by unfold StS.does; simp only [h]; rfl]
        exact hcore 98 (by rw [h]; rfl) (enters_of Tryz.func98 (by kernel_rfl) rfl) _ (fun W mp mc hW hin => name1_any W b S s1 hW (by rw [ht1]; exact hok.t) addr (o.withM mp mv.length mc) h)
      · rw [show s1.does o mv addr = s1.tr ((s1.t.rmdir o.path).run s1.t) by unfold StS.does; simp only [h]; rfl]
        exact hcore 98 (by rw [h]; rfl) (enters_of Tryz.func98 (by kernel_rfl) rfl) _ (fun W mp mc hW hin => name2_any W b S s1 hW (by rw [ht1]; exact hok.t) addr (o.withM mp mv.length mc) h)
      · rw [show s1.does o mv addr = s1.tr ((s1.t.mk' o.path 2).run s1.t) by unfold StS.does; simp only [h]; rfl]
        exact hcore 98 (by rw [h]; rfl) (enters_of Tryz.func98 (by kernel_rfl) rfl) _ (fun W mp mc hW hin => name3_any W b S s1 hW (by rw [ht1]; exact hok.t) addr (o.withM mp mv.length mc) h)
      · rw [show s1.does o mv addr = s1.tr ((s1.t.lnk o.path o.dest).run s1.t) by unfold StS.does; simp only [h]; rfl]
        exact hcore 98 (by rw [h]; rfl) (enters_of Tryz.func98 (by kernel_rfl) rfl) _ (fun W mp mc hW hin => name4_any W b S s1 hW (by rw [ht1]; exact hok.t) addr (o.withM mp mv.length mc) h)
      · rw [show s1.does o mv addr = s1.tr ((s1.t.unlink o.path).run s1.t) by unfold StS.does; simp only [h]; rfl]
        exact hcore 98 (by rw [h]; rfl) (enters_of Tryz.func98 (by kernel_rfl) rfl) _ (fun W mp mc hW hin => name5_any W b S s1 hW (by rw [ht1]; exact hok.t) addr (o.withM mp mv.length mc) h)
      · rw [show s1.does o mv addr = s1.tr ((s1.t.rename o.path o.dest).run s1.t) by unfold StS.does; simp only [h]; rfl]
        exact hcore 98 (by rw [h]; rfl) (enters_of Tryz.func98 (by kernel_rfl) rfl) _ (fun W mp mc hW hin => name6_any W b S s1 hW (by rw [ht1]; exact hok.t) addr (o.withM mp mv.length mc) h)
      · rw [show s1.does o mv addr = s1.tr ((s1.t.trunc o.path o.size).run s1.t) by unfold StS.does; simp only [h]; rfl]
        exact hcore 98 (by rw [h]; rfl) (enters_of Tryz.func98 (by kernel_rfl) rfl) _ (fun W mp mc hW hin => name7_any W b S s1 hW (by rw [ht1]; exact hok.t) addr (o.withM mp mv.length mc) h)
      · rw [show s1.does o mv addr = s1.opn o addr by unfold StS.does; simp only [h]; rfl]
        exact hcore 99 (by rw [h]; rfl) (enters_of Tryz.func99 (by kernel_rfl) rfl) _ (fun W mp mc hW hin => open_st W b S s1 hW (by rw [ht1]; exact hok.t.t) (by rw [hh1]; exact hl) addr (o.withM mp mv.length mc))
      · rw [show s1.does o mv addr = s1.cls o by unfold StS.does; simp only [h]; rfl]
        exact hcore 100 (by rw [h]; rfl) (enters_of Tryz.func100 (by kernel_rfl) rfl) _ (fun W mp mc hW hin => close_any W b S s1 hW (by rw [ht1]; exact hok.t.t) addr (o.withM mp mv.length mc))
      · rw [show s1.does o mv addr = s1.wrt o addr by unfold StS.does; simp only [h]; rfl]
        exact hcore 101 (by rw [h]; rfl) (enters_of Tryz.func101 (by kernel_rfl) rfl) _ (fun W mp mc hW hin => write_any W b S s1 hW (by rw [ht1]; exact hok.t.t) addr (o.withM mp mv.length mc))
      · rw [show s1.does o mv addr = (((s1.h.renew o.client o.tick).1, 0), { s1 with h := (s1.h.renew o.client o.tick).2 }) by unfold StS.does; simp only [h]; rfl]
        exact hcore 102 (by rw [h]; rfl) (enters_of Tryz.func102 (by kernel_rfl) rfl) _ (fun W mp mc hW hin => renew_any W b S s1 hW addr (o.withM mp mv.length mc))
      · rw [show s1.does o mv addr = s1.exp o.tick by unfold StS.does; simp only [h]; rfl]
        exact hcore 103 (by rw [h]; rfl) (enters_of Tryz.func103 (by kernel_rfl) rfl) _ (fun W mp mc hW hin => expire_any W b S s1 hW (by rw [ht1]; exact hok.t.t) (by rw [hh1]; exact hl) (by rw [hh1]; exact hok.hk) addr (o.withM mp mv.length mc))
      · rw [show s1.does o mv addr = ((0, 0), s1) by unfold StS.does; simp only [h]; rfl]
        exact hcore 105 (by rw [h]; rfl) (enters_of Tryz.func105 (by kernel_rfl) rfl) _ (fun W mp mc hW hin => image_any W b S s1 hW addr (o.withM mp mv.length mc))
set_option maxRecDepth 100000 in
set_option maxHeartbeats 2000000 in
theorem stApplyS_any (w : World) (b : Nat) (S : Nat → Prop) (s : StS) (h : SttAt w b S s) (hok : s.ok) (addr kind : Int) (text : ByteArray) (hts : text.size ≤ 9223372036854775807) (hf : FieldsAt w) (hS0 : ¬ S 0) (h13 : ∀ r, decOp text = some r → r.1.kind = 1 ∨ r.1.kind = 3 ∨ r.1.kind = 5 ∨ r.1.kind = 8 ∨ r.1.kind = 9 ∨ r.1.kind = 10) :
    Calls Tryz.prog 16 #[.pointer (some ⟨b, 0, none⟩), .int .i64 addr, .int .i64 kind, .string text] w (APost w b S (s.apply addr kind text)) := by
  unfold StS.apply
  by_cases hc : addr ≠ s.next ∨ 16384 ≤ addr ∨ (kind ≠ 1 ∧ kind ≠ 2)
  · rw [if_pos hc]
    exact apply_arg w b S s h addr kind text hc
  rw [if_neg hc]
  have ha : addr = s.next := Classical.not_not.1 fun h => hc (Or.inl h)
  have ha2 : addr < 16384 := by omega
  by_cases hk : kind = 2
  · rw [if_pos hk]
    subst hk
    exact apply_junk w b S s h hok addr text hts hf hS0 ha ha2
  rw [if_neg hk]
  have hk1 : kind = 1 := by omega
  subst hk1
  cases hd : decOp text with
  | none =>
    exact apply_none w b S s h hok addr text hts hf hS0 ha ha2 hd
  | some r =>
    obtain ⟨o, mv⟩ := r
    simp only
    by_cases hs : oseen s.o o.client o.seq = true
    · rw [if_pos hs]
      exact apply_seen w b S s h hok addr text hts hf hS0 ha ha2 o mv hd hs
    · rw [if_neg hs]
      have hs : oseen s.o o.client o.seq = false := by simpa using hs
      have hkn := decOp_known hd
      have hk13 := h13 _ hd
      simp only at hkn hk13
      have hl : s.h.m.length ≤ 100000 := by have := hok.hl; have := hok.n1; omega
      obtain ⟨s1, hs1⟩ : ∃ s1 : StS, s1 = { s with next := s.next + 1 } := ⟨_, rfl⟩
      have ht1 : s1.t = s.t := by rw [hs1]
      have hh1 : s1.h = s.h := by rw [hs1]
      rw [← hs1]
      have hcore := fun g hg eg d hdo => apply_does w b S s h hok addr text hts hf hS0 ha ha2 o mv hd hs g hg eg d hdo
      rw [← hs1] at hcore
      rcases hk13 with h | h | h | h | h | h
      · rw [show s1.does o mv addr = s1.tr ((s1.t.mk' o.path 1).run s1.t) by unfold StS.does; simp only [h]; rfl]
        exact hcore 98 (by rw [h]; rfl) (enters_of Tryz.func98 (by kernel_rfl) rfl) _ (fun W mp mc hW hin => name1_any W b S s1 hW (by rw [ht1]; exact hok.t) addr (o.withM mp mv.length mc) h)
      · rw [show s1.does o mv addr = s1.tr ((s1.t.mk' o.path 2).run s1.t) by unfold StS.does; simp only [h]; rfl]
        exact hcore 98 (by rw [h]; rfl) (enters_of Tryz.func98 (by kernel_rfl) rfl) _ (fun W mp mc hW hin => name3_any W b S s1 hW (by rw [ht1]; exact hok.t) addr (o.withM mp mv.length mc) h)
      · rw [show s1.does o mv addr = s1.tr ((s1.t.unlink o.path).run s1.t) by unfold StS.does; simp only [h]; rfl]
        exact hcore 98 (by rw [h]; rfl) (enters_of Tryz.func98 (by kernel_rfl) rfl) _ (fun W mp mc hW hin => name5_any W b S s1 hW (by rw [ht1]; exact hok.t) addr (o.withM mp mv.length mc) h)
      · rw [show s1.does o mv addr = s1.opn o addr by unfold StS.does; simp only [h]; rfl]
        exact hcore 99 (by rw [h]; rfl) (enters_of Tryz.func99 (by kernel_rfl) rfl) _ (fun W mp mc hW hin => open_st W b S s1 hW (by rw [ht1]; exact hok.t.t) (by rw [hh1]; exact hl) addr (o.withM mp mv.length mc))
      · rw [show s1.does o mv addr = s1.cls o by unfold StS.does; simp only [h]; rfl]
        exact hcore 100 (by rw [h]; rfl) (enters_of Tryz.func100 (by kernel_rfl) rfl) _ (fun W mp mc hW hin => close_any W b S s1 hW (by rw [ht1]; exact hok.t.t) addr (o.withM mp mv.length mc))
      · rw [show s1.does o mv addr = s1.wrt o addr by unfold StS.does; simp only [h]; rfl]
        exact hcore 101 (by rw [h]; rfl) (enters_of Tryz.func101 (by kernel_rfl) rfl) _ (fun W mp mc hW hin => write_any W b S s1 hW (by rw [ht1]; exact hok.t.t) addr (o.withM mp mv.length mc))
end Go.Proofs.YtpjkimdmbgkpcaaGreatDoor
/- what the document writes is what the program reads, plain -/
namespace Go.Proofs.YtpjkimdmbgkpcaaGreatDoor
open Go.RowKit Esch

theorem bs_all (r : List UInt8) (n : Nat) (l : List UInt8) (h : l.length = n) : (bs (l ++ r)).extract n (bs (l ++ r)).size = bs r := by
  rw [bs_extract, bs_size, List.length_append]
  congr 1
  rw [List.drop_append_of_le_length (by omega), List.drop_of_length_le (by omega), List.nil_append, List.take_of_length_le (by omega)]
theorem unNum_put (v n : Nat) (r : List UInt8) (hv : v < 256 ^ n) (hv2 : v < 9223372036854775808) : unNum (bs (putB v n ++ r)) false n = (v, bs r, false) := by
  have hl := putB_length v n
  have hc : cutB (bs (putB v n ++ r)) 0 n = putB v n := by
    unfold cutB
    rw [bs_list, List.drop_zero, List.take_append_of_le_length (by omega), List.take_of_length_le (by omega)]
  unfold unNum
  rw [if_neg (by rw [bs_size, List.length_append, hl]; simp), hc, getB_putB' hv, if_neg (by omega), bs_all r n _ hl]
theorem unTake_put (p r : List UInt8) : unTake (bs (p ++ r)) false p.length = (bs p, bs r, false) := by
  unfold unTake
  rw [if_neg (by rw [bs_size, List.length_append]; simp), bs_all r p.length p rfl]
  congr 1
  rw [bs_extract]
  congr 1
  simp
theorem unText_put (p r : List UInt8) (most : Nat) (hm : p.length ≤ most) (hp : p.length < 65536) : unText (bs (textL p ++ r)) false most = (bs p, bs r, false) := by
  unfold unText textL
  rw [List.append_assoc, unNum_put p.length 2 (p ++ r) (by omega) (by omega)]
  simp only [Bool.false_or]
  rw [show decide (most < p.length) = false from decide_eq_false (by omega), unTake_put]
theorem decHead_put (k c s : Nat) (r : List UInt8) (hk : k < 256) (hc : c < 256) (hs : s < 4294967296) : decHead (bs (headL k c s ++ r)) = ((opN c s k, []), bs r, false) := by
  unfold decHead headL
  simp only [List.append_assoc]
  rw [unNum_put k 1 _ (by omega) (by omega)]
  simp only
  rw [unNum_put c 1 _ (by omega) (by omega)]
  simp only
  rw [unNum_put s 4 _ (by omega) (by omega)]
theorem goodV_opP (k c s : Nat) (p : Nm) (hk : k = 1 ∨ k = 2 ∨ k = 3 ∨ k = 5 ∨ k = 8) (hc : c ≤ 7) (hs : 1 ≤ s ∧ s ≤ 2147483647) (hp : goodPath p = true) : goodV (opP k c s p) [] = true := by
  have h1 : winB c 0 7 = true := by simp [winB]; omega
  have h2 : winB s 1 2147483647 = true := by simp [winB]; omega
  unfold goodV OpS.good
  show (knownB k && winB c 0 7 && winB s 1 2147483647 && (opP k c s p).form [] && (opP k c s p).alike (opP k c s p).kept) = true
  rw [h1, h2, kept_opP k c s p hk]
  rcases hk with rfl | rfl | rfl | rfl | rfl <;> simp [knownB, OpS.form, opP, opN, hp]
theorem dec_opP (k c s : Nat) (p : Nm) (hk : k = 1 ∨ k = 2 ∨ k = 3 ∨ k = 5 ∨ k = 8) (hc : c ≤ 7) (hs : 1 ≤ s ∧ s ≤ 2147483647) (hp : goodPath p = true) (hpl : p.length ≤ 1000) : decOp (bs (headL k c s ++ textL p)) = some (opP k c s p, []) := by
  have hr : decRaw (bs (headL k c s ++ textL p)) = ((opP k c s p, []), bs [], false) := by
    unfold decRaw
    rw [decHead_put k c s _ (by omega) (by omega) (by omega)]
    rw [if_pos (by rcases hk with rfl | rfl | rfl | rfl | rfl <;> rfl)]
    have hf : fldL ((opN c s k).kind.toNat) = [112] := by rcases hk with rfl | rfl | rfl | rfl | rfl <;> rfl
    show getAll (fldL ((opN c s k).kind.toNat)) _ = _
    rw [hf]
    have ht := unText_put p [] 4096 (by omega) (by omega)
    rw [List.append_nil] at ht
    show getF (opN c s k) [] (bs (textL p)) false 112 = _
    have hg : getF (opN c s k) [] (bs (textL p)) false 112 = (({ opN c s k with path := (unText (bs (textL p)) false 4096).1.data.toList }, []), (unText (bs (textL p)) false 4096).2) := rfl
    rw [hg, ht]
    rfl
  unfold decOp
  rw [hr, if_neg (by simp), if_pos (goodV_opP k c s p hk hc hs hp)]
theorem goodV_opH (c s h : Nat) (hc : c ≤ 7) (hs : 1 ≤ s ∧ s ≤ 2147483647) (hh : h ≤ 16383) : goodV (opH c s h) [] = true := by
  have h1 : winB c 0 7 = true := by simp [winB]; omega
  have h2 : winB s 1 2147483647 = true := by simp [winB]; omega
  have h3 : winB h 0 16383 = true := by simp [winB]; omega
  unfold goodV OpS.good
  show (knownB 9 && winB c 0 7 && winB s 1 2147483647 && winB h 0 16383 && (opH c s h).alike (opH c s h).kept) = true
  rw [h1, h2, h3, kept_opH c s h]
  rfl
theorem dec_opH (c s h : Nat) (hc : c ≤ 7) (hs : 1 ≤ s ∧ s ≤ 2147483647) (hh : h ≤ 16383) : decOp (bs (headL 9 c s ++ putB h 4)) = some (opH c s h, []) := by
  have hr : decRaw (bs (headL 9 c s ++ putB h 4)) = ((opH c s h, []), bs [], false) := by
    unfold decRaw
    rw [decHead_put 9 c s _ (by omega) (by omega) (by omega)]
    rw [if_pos (by rfl)]
    have ht := unNum_put h 4 [] (by omega) (by omega)
    rw [List.append_nil] at ht
    show getF (opN c s 9) [] (bs (putB h 4)) false 104 = _
    have hg : getF (opN c s 9) [] (bs (putB h 4)) false 104 = (({ opN c s 9 with hd := (unNum (bs (putB h 4)) false 4).1 }, []), (unNum (bs (putB h 4)) false 4).2) := rfl
    rw [hg, ht]
    rfl
  unfold decOp
  rw [hr, if_neg (by simp), if_pos (goodV_opH c s h hc hs hh)]
theorem goodV_opW (c s h o : Nat) (d : Nm) (hc : c ≤ 7) (hs : 1 ≤ s ∧ s ≤ 2147483647) (hh : h ≤ 16383) (ho : o ≤ 8192) (hd : 1 ≤ d.length ∧ d.length ≤ 1024) : goodV (opW c s h o (bs d)) [] = true := by
  have h1 : winB c 0 7 = true := by simp [winB]; omega
  have h2 : winB s 1 2147483647 = true := by simp [winB]; omega
  have h3 : winB h 0 16383 = true := by simp [winB]; omega
  have h4 : winB o 0 8192 = true := by simp [winB]; omega
  have h5 : winB d.length 1 1024 = true := by simp [winB]; omega
  unfold goodV OpS.good
  show (knownB 10 && winB c 0 7 && winB s 1 2147483647 && (winB h 0 16383 && winB o 0 8192 && winB d.length 1 1024) && (opW c s h o (bs d)).alike (opW c s h o (bs d)).kept) = true
  rw [h1, h2, h3, h4, h5, kept_opW c s h o (bs d)]
  rfl
theorem dec_opW (c s h o : Nat) (d : Nm) (hc : c ≤ 7) (hs : 1 ≤ s ∧ s ≤ 2147483647) (hh : h ≤ 16383) (ho : o ≤ 8192) (hd : 1 ≤ d.length ∧ d.length ≤ 1024) : decOp (bs (headL 10 c s ++ (putB h 4 ++ (putB o 4 ++ textL d)))) = some (opW c s h o (bs d), []) := by
  have hr : decRaw (bs (headL 10 c s ++ (putB h 4 ++ (putB o 4 ++ textL d)))) = ((opW c s h o (bs d), []), bs [], false) := by
    unfold decRaw
    rw [decHead_put 10 c s _ (by omega) (by omega) (by omega)]
    rw [if_pos (by rfl)]
    have ht := unText_put d [] 1024 (by omega) (by omega)
    rw [List.append_nil] at ht
    have e1 : getF (opN c s 10) [] (bs (putB h 4 ++ (putB o 4 ++ textL d))) false 104 = (({ opN c s 10 with hd := h }, []), bs (putB o 4 ++ textL d), false) := by
      have hg : getF (opN c s 10) [] (bs (putB h 4 ++ (putB o 4 ++ textL d))) false 104 = (({ opN c s 10 with hd := (unNum (bs (putB h 4 ++ (putB o 4 ++ textL d))) false 4).1 }, []), (unNum (bs (putB h 4 ++ (putB o 4 ++ textL d))) false 4).2) := rfl
      rw [hg, unNum_put h 4 _ (by omega) (by omega)]
    have e2 : getF { opN c s 10 with hd := h } [] (bs (putB o 4 ++ textL d)) false 111 = (({ opN c s 10 with hd := h, off := o }, []), bs (textL d), false) := by
      have hg : getF { opN c s 10 with hd := h } [] (bs (putB o 4 ++ textL d)) false 111 = (({ opN c s 10 with hd := h, off := (unNum (bs (putB o 4 ++ textL d)) false 4).1 }, []), (unNum (bs (putB o 4 ++ textL d)) false 4).2) := rfl
      rw [hg, unNum_put o 4 _ (by omega) (by omega)]
    have e3 : getF { opN c s 10 with hd := h, off := o } [] (bs (textL d)) false 100 = ((opW c s h o (bs d), []), bs [], false) := by
      have hg : getF { opN c s 10 with hd := h, off := o } [] (bs (textL d)) false 100 = (({ opN c s 10 with hd := h, off := o, data := (unText (bs (textL d)) false 1024).1 }, []), (unText (bs (textL d)) false 1024).2) := rfl
      rw [hg, ht]
      rfl
    show getAll [104, 111, 100] _ = _
    unfold getAll
    simp only [List.foldl_cons, List.foldl_nil]
    rw [show (((10 : Nat) : Int)) = 10 from rfl, e1]
    simp only
    rw [e2]
    simp only
    rw [e3]
  unfold decOp
  rw [hr, if_neg (by simp), if_pos (goodV_opW c s h o d hc hs hh ho hd)]
end Go.Proofs.YtpjkimdmbgkpcaaGreatDoor
/- what the laws of the state wake them by, plain -/
namespace Go.Proofs.YtpjkimdmbgkpcaaGreatDoor
open Go.RowKit Esch

def wkP : Nm := [47, 97]
def wkT : ByteArray := bs (headL 1 0 1 ++ textL wkP)
theorem wkT_dec : decOp wkT = some (opP 1 0 1 wkP, []) := dec_opP 1 0 1 wkP (by decide) (by decide) (by decide) (by decide) (by decide)
def wkS1 : StS := ⟨((tr0.mk' wkP 1).run tr0).2, hd0, [(0, (1, 0, 0))], 1⟩
def wkS2 : StS := { wkS1 with next := 2 }
theorem wk_mk : ((tr0.mk' wkP 1).run tr0).1 = 0 := by kernel_rfl
theorem wk_a1 : st0.apply 0 1 wkT = (((0, 0), true, 0), wkS1) := by
  unfold StS.apply
  rw [if_neg (by decide), if_neg (by decide), wkT_dec]
  simp only
  rw [if_neg (by decide)]
  have hd : ({ st0 with next := st0.next + 1 } : StS).does (opP 1 0 1 wkP) [] 0 = ((((tr0.mk' wkP 1).run tr0).1, 0), ⟨((tr0.mk' wkP 1).run tr0).2, hd0, [], 1⟩) := rfl
  rw [hd, wk_mk]
  rfl
theorem wk_a2 : wkS1.apply 1 1 wkT = (((0, 0), false, 0), wkS2) := by
  unfold StS.apply
  rw [if_neg (by decide), if_neg (by decide), wkT_dec]
  simp only
  rw [if_pos (by decide)]
  rfl
theorem wk_last : olast wkS2.o 0 = (1, 0, 0) := by decide
theorem wk_list : lstOf wkS2.t (wkS2.t.resolve [47]) = Res.ok 1 := by kernel_rfl
theorem wk_nm : wkS2.t.n.m = [((1, [97]), 2)] := by kernel_rfl
end Go.Proofs.YtpjkimdmbgkpcaaGreatDoor
/- a file that is open when its name goes: plain -/
namespace Go.Proofs.YtpjkimdmbgkpcaaGreatDoor
open Go.RowKit Esch

def so0 (k : Int) : StS := ⟨tr0, hd0, [], k⟩
def soA : TrS := ⟨⟨[(1, ⟨1, 1, 1, 0, 0, []⟩), (2, ⟨2, 2, 1, 0, 0, []⟩)], 3⟩, ⟨[((1, [97]), 2)], [(1, 1)]⟩⟩
def soB : TrS := ⟨⟨[(1, ⟨1, 1, 1, 0, 0, []⟩), (2, ⟨2, 2, 1, 1, 0, []⟩)], 3⟩, ⟨[((1, [97]), 2)], [(1, 1)]⟩⟩
def soC : TrS := ⟨⟨[(1, ⟨1, 1, 1, 0, 0, []⟩), (2, ⟨2, 2, 0, 1, 0, []⟩)], 3⟩, ⟨[], [(1, 0)]⟩⟩
def soD (k at' n : Int) : TrS := ⟨⟨[(1, ⟨1, 1, 1, 0, 0, []⟩), (2, ⟨2, 2, 0, 1, at' + n, [⟨at', n, k + 3, 0⟩]⟩)], 3⟩, ⟨[], [(1, 0)]⟩⟩
def soE : TrS := ⟨⟨[(1, ⟨1, 1, 1, 0, 0, []⟩)], 3⟩, ⟨[], [(1, 0)]⟩⟩
def soH (k : Int) : HdS := ⟨[((0, k + 1), 2)], List.replicate 8 0⟩
def so1 (k : Int) : StS := ⟨soA, hd0, [(0, (1, 0, 0))], k + 1⟩
def so2 (k : Int) : StS := ⟨soB, soH k, [(0, (2, 0, k + 1))], k + 2⟩
def so3 (k : Int) : StS := ⟨soC, soH k, [(0, (3, 0, 0))], k + 3⟩
def so4 (k at' n : Int) : StS := ⟨soD k at' n, soH k, [(0, (4, 0, 0))], k + 4⟩
def so5 (k : Int) : StS := ⟨soE, hd0, [(0, (5, 0, 0))], k + 5⟩
theorem so_mk : (tr0.mk' wkP 2).run tr0 = (0, soA) := by kernel_rfl
theorem so_res : soA.resolve wkP = .ok 2 := by kernel_rfl
theorem so_opn : soA.t.opn 2 1 = (0, soB.t) := by kernel_rfl
theorem so_unl : (soB.unlink wkP).run soB = (0, soC) := by kernel_rfl
theorem unNum_nil (n : Nat) (bad : Bool) (hn : 0 < n) : unNum ⟨#[]⟩ bad n = (0, ⟨#[]⟩, true) := by
  unfold unNum
  rw [if_pos (Or.inr (show ((⟨#[]⟩ : ByteArray).size : Nat) < n from hn))]
theorem dec_nil : decOp ⟨#[]⟩ = none := by
  have hh : decHead ⟨#[]⟩ = ((opN 0 0 0, []), ⟨#[]⟩, true) := by
    unfold decHead
    simp only [unNum_nil _ _ Nat.one_pos, unNum_nil 4 _ (by decide)]
    rfl
  have hr : decRaw ⟨#[]⟩ = ((opN 0 0 0, []), ⟨#[]⟩, true) := by
    unfold decRaw
    rw [hh]
    exact if_neg (show ¬ (knownB 0 = true) by decide)
  unfold decOp
  rw [hr, if_pos (Or.inl rfl)]
theorem so_junk (i : Nat) (hi : i < 16384) : (so0 i).apply i 2 ⟨#[]⟩ = (((0, 0), false, 0), so0 (i + 1 : Nat)) := by
  unfold StS.apply
  rw [if_neg (by show ¬ ((i : Int) ≠ i ∨ 16384 ≤ (i : Int) ∨ _); omega), if_pos rfl]
  rfl
theorem so_a1 (k : Nat) (hk : k < 20) : (so0 k).apply k 1 (bs (headL 3 0 1 ++ textL wkP)) = (((0, 0), true, 0), so1 k) := by
  unfold StS.apply
  rw [if_neg (by show ¬ ((k : Int) ≠ k ∨ 16384 ≤ (k : Int) ∨ _); omega), if_neg (by decide), dec_opP 3 0 1 wkP (by decide) (by decide) (by decide) (by decide) (by decide)]
  simp only
  rw [if_neg (show ¬ (oseen (so0 k).o (opP 3 0 1 wkP).client (opP 3 0 1 wkP).seq = true) from (by decide : ¬ (oseen [] 0 1 = true)))]
  have hd : ({ so0 k with next := (so0 k).next + 1 } : StS).does (opP 3 0 1 wkP) [] k = ((((tr0.mk' wkP 2).run tr0).1, 0), ⟨((tr0.mk' wkP 2).run tr0).2, hd0, [], (k : Int) + 1⟩) := rfl
  rw [hd, so_mk]
  rfl
theorem so_hopn (k : Nat) (hk : k < 20) : hd0.opn 0 ((k : Int) + 1) 2 = (0, soH k) := by
  unfold HdS.opn
  rw [if_neg (by simp [clientB]; omega), if_neg (by show ¬ ((Esch.get ([] : List Hd) (0, (k : Int) + 1)).isSome = true); simp [Esch.get]), if_neg (by show ¬ (16 ≤ hcnt [] 0); decide)]
  rfl
theorem so_a2 (k : Nat) (hk : k < 20) : (so1 k).apply ((k : Int) + 1) 1 (bs (headL 8 0 2 ++ textL wkP)) = (((0, (k : Int) + 1), true, 0), so2 k) := by
  unfold StS.apply
  rw [if_neg (by show ¬ ((k : Int) + 1 ≠ (k : Int) + 1 ∨ 16384 ≤ (k : Int) + 1 ∨ _); omega), if_neg (by decide), dec_opP 8 0 2 wkP (by decide) (by decide) (by decide) (by decide) (by decide)]
  simp only
  rw [if_neg (show ¬ (oseen (so1 k).o (opP 8 0 2 wkP).client (opP 8 0 2 wkP).seq = true) from (by decide : ¬ (oseen [(0, (1, 0, 0))] 0 2 = true)))]
  have hd : ({ so1 k with next := (so1 k).next + 1 } : StS).does (opP 8 0 2 wkP) [] ((k : Int) + 1) = ((0, (k : Int) + 1), ⟨soB, soH k, [(0, (1, 0, 0))], (k : Int) + 1 + 1⟩) := by
    rw [show ({ so1 k with next := (so1 k).next + 1 } : StS).does (opP 8 0 2 wkP) [] ((k : Int) + 1) = ({ so1 k with next := (so1 k).next + 1 } : StS).opn (opP 8 0 2 wkP) ((k : Int) + 1) from rfl]
    unfold StS.opn
    rw [show ({ so1 k with next := (so1 k).next + 1 } : StS).t.resolve (opP 8 0 2 wkP).path = .ok 2 from so_res]
    simp only
    rw [if_neg (show ¬ (((so1 k).t.t.at 2).kind = 1) from (by decide : ¬ ((soA.t.at 2).kind = 1)))]
    rw [show (so1 k).h.opn (opP 8 0 2 wkP).client ((k : Int) + 1) 2 = (0, soH k) from so_hopn k hk]
    rw [if_neg (by simp)]
    rw [show (so1 k).t.t.opn 2 1 = (0, soB.t) from so_opn]
    rw [if_neg (by simp)]
    rfl
  rw [hd]
  show (_, _) = _
  congr 1
theorem so_a3 (k : Nat) (hk : k < 20) : (so2 k).apply ((k : Int) + 2) 1 (bs (headL 5 0 3 ++ textL wkP)) = (((0, 0), true, 0), so3 k) := by
  unfold StS.apply
  rw [if_neg (by show ¬ ((k : Int) + 2 ≠ (k : Int) + 2 ∨ 16384 ≤ (k : Int) + 2 ∨ _); omega), if_neg (by decide), dec_opP 5 0 3 wkP (by decide) (by decide) (by decide) (by decide) (by decide)]
  simp only
  rw [if_neg (show ¬ (oseen (so2 k).o (opP 5 0 3 wkP).client (opP 5 0 3 wkP).seq = true) from (Bool.eq_false_iff.mp (show oseen [(0, (2, 0, (k : Int) + 1))] 0 3 = false from rfl)))]
  have hd : ({ so2 k with next := (so2 k).next + 1 } : StS).does (opP 5 0 3 wkP) [] ((k : Int) + 2) = ((((soB.unlink wkP).run soB).1, 0), ⟨((soB.unlink wkP).run soB).2, soH k, [(0, (2, 0, (k : Int) + 1))], (k : Int) + 2 + 1⟩) := rfl
  rw [hd, so_unl]
  show (_, _) = _
  congr 1
theorem so_of (k : Int) : (soH k).of 0 (k + 1) = some 2 := by
  unfold HdS.of soH
  simp [Esch.get]
theorem so_wr (k : Nat) (hk : k < 20) (o n : Nat) (ho : o < 4000) (hn : 1 ≤ n ∧ n ≤ 1024) : soC.t.write 2 o n ((k : Int) + 3) = (0, (soD k o n).t) := by
  have hp : putP (soC.t.at 2).ps ⟨o, n, (k : Int) + 3, 0⟩ = ([⟨o, n, (k : Int) + 3, 0⟩], 0) := putP_nil (by unfold PtS.one wholeB; simp; omega)
  unfold TabS.write
  rw [if_neg (show ¬ (soC.t.has 2 = false) by decide), if_neg (show ¬ ((soC.t.at 2).kind = 1) by decide), if_neg (by omega), hp, if_neg (by simp)]
  have hm : max (soC.t.at 2).size ((o : Int) + n) = (o : Int) + n := by
    show max 0 ((o : Int) + n) = _
    omega
  rw [hm]
  rfl
theorem so_a4 (k : Nat) (hk : k < 20) (o : Nat) (d : Nm) (ho : o < 4000) (hn : 1 ≤ d.length ∧ d.length ≤ 1024) : (so3 k).apply ((k : Int) + 3) 1 (bs (headL 10 0 4 ++ (putB (k + 1) 4 ++ (putB o 4 ++ textL d)))) = (((0, 0), true, 0), so4 k o d.length) := by
  unfold StS.apply
  rw [if_neg (by show ¬ ((k : Int) + 3 ≠ (k : Int) + 3 ∨ 16384 ≤ (k : Int) + 3 ∨ _); omega), if_neg (by decide), dec_opW 0 4 (k + 1) o d (by decide) (by decide) (by omega) (by omega) hn]
  simp only
  rw [if_neg (show ¬ (oseen (so3 k).o (opW 0 4 (k + 1) o (bs d)).client (opW 0 4 (k + 1) o (bs d)).seq = true) from (by decide : ¬ (oseen [(0, (3, 0, 0))] 0 4 = true)))]
  have hd : ({ so3 k with next := (so3 k).next + 1 } : StS).does (opW 0 4 (k + 1) o (bs d)) [] ((k : Int) + 3) = ((0, 0), ⟨soD k o d.length, soH k, [(0, (3, 0, 0))], (k : Int) + 3 + 1⟩) := by
    show StS.wrt _ (opW 0 4 (k + 1) o (bs d)) ((k : Int) + 3) = _
    unfold StS.wrt
    show (match (soH k).of 0 ((k + 1 : Nat) : Int) with | none => _ | some i => _) = _
    rw [show (((k + 1 : Nat) : Int)) = (k : Int) + 1 by omega, so_of]
    show StS.tab _ (soC.t.write 2 (o : Int) ((bs d).size : Int) ((k : Int) + 3)) = _
    rw [bs_size, so_wr k hk o d.length ho hn]
    rfl
  rw [hd]
  show (_, _) = _
  congr 1
theorem so_cl (k : Int) : (soH k).close 0 (k + 1) = ((2, 0), hd0) := by
  unfold HdS.close
  rw [so_of]
  simp [soH, Esch.del, hd0]
theorem so_op2 (k o n : Int) : (soD k o n).t.opn 2 (-1) = (0, soE.t) := by
  unfold TabS.opn
  rw [if_neg (show ¬ ((soD k o n).t.has 2 = false) by simp [TabS.has, soD, Esch.get]), if_neg (by omega), if_neg (show ¬ (((soD k o n).t.at 2).kind = 1) by simp [TabS.at, soD, Esch.get]), if_neg (show ¬ (((soD k o n).t.at 2).opens + -1 < 0 ∨ 128 < ((soD k o n).t.at 2).opens + -1) by simp [TabS.at, soD, Esch.get])]
  simp [TabS.at, soD, Esch.get, TabS.keep, Esch.set, Esch.del, soE]
theorem so_a5 (k : Nat) (hk : k < 20) (o n : Int) : (so4 k o n).apply ((k : Int) + 4) 1 (bs (headL 9 0 5 ++ putB (k + 1) 4)) = (((0, 0), true, 0), so5 k) := by
  unfold StS.apply
  rw [if_neg (by show ¬ ((k : Int) + 4 ≠ (k : Int) + 4 ∨ 16384 ≤ (k : Int) + 4 ∨ _); omega), if_neg (by decide), dec_opH 0 5 (k + 1) (by decide) (by decide) (by omega)]
  simp only
  rw [if_neg (show ¬ (oseen (so4 k o n).o (opH 0 5 (k + 1)).client (opH 0 5 (k + 1)).seq = true) from (by decide : ¬ (oseen [(0, (4, 0, 0))] 0 5 = true)))]
  have hd : ({ so4 k o n with next := (so4 k o n).next + 1 } : StS).does (opH 0 5 (k + 1)) [] ((k : Int) + 4) = ((0, 0), ⟨soE, hd0, [(0, (4, 0, 0))], (k : Int) + 4 + 1⟩) := by
    show StS.cls _ (opH 0 5 (k + 1)) = _
    have hc : ({ so4 k o n with next := (so4 k o n).next + 1 } : StS).h.close (opH 0 5 (k + 1)).client (opH 0 5 (k + 1)).hd = ((2, 0), hd0) := by
      show (soH k).close 0 ((k + 1 : Nat) : Int) = _
      rw [show (((k + 1 : Nat) : Int)) = (k : Int) + 1 by omega, so_cl]
    unfold StS.cls
    rw [hc, if_neg (by simp)]
    show StS.tab _ ((soD k o n).t.opn 2 (-1)) = _
    rw [so_op2]
    rfl
  rw [hd]
  show (_, _) = _
  congr 1
theorem so_at2 (k o n : Int) : (soD k o n).t.at 2 = ⟨2, 2, 0, 1, o + n, [⟨o, n, k + 3, 0⟩]⟩ := rfl
theorem so_has2 (k o n : Int) : (soD k o n).t.has 2 = true := rfl
theorem so_gone : soE.t.has 2 = false := rfl
end Go.Proofs.YtpjkimdmbgkpcaaGreatDoor
/- what the laws of the state wake them by -/
namespace Go.Proofs.YtpjkimdmbgkpcaaGreatDoor
open Go.RowKit Esch Go.Shelf

set_option linter.unusedSimpArgs false
set_option maxRecDepth 100000 in
set_option maxHeartbeats 2000000 in
theorem text25_any (w : World) (x : OpS) (l : List UInt8) (henc : ∀ W, Calls Tryz.prog 65 #[.agg x.cells.toArray] W (EncPost W l)) :
    Calls Tryz.prog 17 #[.agg x.cells.toArray] w fun e w' => e = .returned (.string (bs l)) ∧ Below w.heap.size w w' := by
  obtain ⟨xc, xs, xk, p, q, xz, xh, xo, xt, xi, xn, mp, ml, mc⟩ := x
  simp only [OpS.cells] at henc ⊢
  go_enter Tryz.func17, Tryz.ntmps17
  go_wp2_with fail
  refine (henc _).mono ?_
  rintro e w2 ⟨rfl, hB2⟩
  have hB : Below w.heap.size w w2 := (show Below w.heap.size w (w.alloc _) by exact belC (Below.refl _ _)).trans (hB2.mono (by simp))
  clear hB2
  go_wp2_with fail
  go_ret
  exact ⟨rfl, hB⟩
theorem wk_text (w : World) : Calls Tryz.prog 17 #[.agg #[.int .i64 0, .int .i64 1, .int .i64 1, .string ⟨#[47, 97]⟩, .string ⟨#[]⟩, .int .i64 0, .int .i64 0, .int .i64 0, .string ⟨#[]⟩, .int .i64 0, .int .i64 0, .slice none 0 0]] w fun e w' => e = .returned (.string wkT) ∧ Below w.heap.size w w' :=
  text25_any w (opP 1 0 1 wkP) _ (fun W => encP1_any W 0 1 wkP (by decide) (by decide) (by decide) (by decide))
set_option maxRecDepth 100000 in
set_option maxHeartbeats 4000000 in
theorem wakes25_any (w : World) (hf : FieldsAt w) (hw : 0 < w.heap.size) : Calls Tryz.prog 10 #[] w fun e w' => e = .returned (.bool true) ∧ Below w.heap.size w w' := by
  have hok1 : wkS1.ok := by have := st0_ok.apply 0 1 wkT; rw [wk_a1] at this; exact this
  have hok2 : wkS2.ok := by have := hok1.apply 1 1 wkT; rw [wk_a2] at this; exact this
  have h13 : ∀ r, decOp wkT = some r → r.1.kind = 1 ∨ r.1.kind = 3 ∨ r.1.kind = 5 ∨ r.1.kind = 8 ∨ r.1.kind = 9 ∨ r.1.kind = 10 := fun r h => by rw [wkT_dec] at h; cases h; exact Or.inl rfl
  have hwt : wkT.size ≤ 9223372036854775807 := by decide
  have HF := Lib.hid hf
  have HW := Lib.hid hw
  clear hf
  go_enter Tryz.func10, Tryz.ntmps10
  go_wp2_with fail
  refine (stNew_any _).mono ?_
  rintro e w1 ⟨b, rfl, hS1, hB1⟩
  have HS1 := Lib.hid hS1
  have HB1 := Lib.hid hB1
  have hz1 := hB1.size
  clear hS1 hB1
  go_wp2_with fail
  refine (wk_text w1).mono ?_
  rintro e w2 ⟨rfl, hB2⟩
  obtain ⟨S, hSd⟩ : ∃ S : Nat → Prop, S = fun k => w.heap.size ≤ k ∧ k < w1.heap.size := ⟨_, rfl⟩
  have HS2 : Hid (SttAt w2 b S st0) := Lib.hid (by rw [hSd]; exact HS1.out.below' hB2)
  have HB2 := Lib.hid (HB1.out.trans (hB2.mono HB1.out.size))
  have hS0 : ¬ S 0 := by rw [hSd]; intro h; have := h.1; omega
  have HSw : Hid (∀ k, S k → w.heap.size ≤ k) := Lib.hid (by rw [hSd]; exact fun k h => h.1)
  have hz2 := hB2.size
  clear hB2 HS1 hSd
  have ha1 := stApplyS_any w2 b S st0 HS2.out st0_ok 0 1 wkT hwt (HF.out.below HB2.out hw) hS0 h13
  rw [wk_a1] at ha1
  obtain ⟨tx, htx⟩ : ∃ tx, tx = wkT := ⟨_, rfl⟩
  rw [← htx] at ha1 ⊢
  have HTX := Lib.hid htx
  clear htx
  go_wp2_with fail
  refine ha1.mono ?_
  clear ha1
  rintro e w3 ⟨rfl, hS3, hM3⟩
  simp only at hS3 ⊢
  obtain ⟨w4, hw4⟩ : ∃ w4, w4 = w3.alloc (.cells #[.int .i64 0, .int .i64 0] 28) := ⟨_, rfl⟩
  have hB4 : Below w3.heap.size w3 w4 := by rw [hw4]; exact belC (Below.refl _ _)
  obtain ⟨ab, hab⟩ : ∃ ab, ab = w3.heap.size := ⟨_, rfl⟩
  have ac : w4.cell? ⟨ab, 0, none⟩ = some (.int .i64 0) := by rw [hw4, hab]; go_simp
  have HS4 := Lib.hid (hS3.below' hB4)
  have HM4 : Hid (Mod S w2 w4) := Lib.hid (hM3.trans (Mod.of_below hB4))
  have hB4w : Below w.heap.size w w4 := HB2.out.trans (HM4.out.below_at HB2.out.size (fun k hk h => by have := HSw.out k h; omega))
  have HB4 := Lib.hid hB4w
  have hS04 : ¬ growI S w2 w3 0 := fun h => h.elim hS0 (fun h => by have := HB2.out.size; omega)
  have hSa : ¬ growI S w2 w3 ab := fun h => by have := hS3.lt _ h; omega
  have HSw4 : Hid (∀ k, growI S w2 w3 k → w.heap.size ≤ k) := Lib.hid (fun k h => h.elim (HSw.out k) (fun h => by have := HB2.out.size; omega))
  have ha2 := stApplyS_any w4 b (growI S w2 w3) wkS1 HS4.out hok1 1 1 wkT hwt (HF.out.below hB4w hw) hS04 h13
  rw [wk_a2, ← HTX.out] at ha2
  have HW4 := Lib.hid hw4
  have HAB := Lib.hid hab
  clear hS3 hM3 hB4 hw4 hab hB4w
  go_wp2_with fail
  rw [← HW4.out, ← HAB.out]
  refine ha2.mono ?_
  clear ha2
  rintro e w5 ⟨rfl, hS5, hM5⟩
  simp only at hS5 ⊢
  have ac := hM5.at ac hSa
  obtain ⟨w6, hw6⟩ : ∃ w6, w6 = w5.alloc (.cells #[.int .i64 0, .int .i64 0] 28) := ⟨_, rfl⟩
  have hB6 : Below w5.heap.size w5 w6 := by rw [hw6]; exact belC (Below.refl _ _)
  have ac := below_at hB6 ac (cell_lt ac)
  have HS6 := Lib.hid (hS5.below' hB6)
  have HB6 : Hid (Below w.heap.size w w6) := Lib.hid (HB4.out.trans ((hM5.trans (Mod.of_below hB6)).below_at HB4.out.size (fun k hk h => by have := HSw4.out k h; omega)))
  have HW6 := Lib.hid hw6
  clear hS5 hM5 hB6 hw6
  go_wp2_with fail
  rw [← HW6.out]
  refine (stOnce_any w6 b _ wkS2 HS6.out).mono ?_
  rintro e w7 ⟨⟨ob, mb, rfl, hon⟩, hw7⟩
  obtain rfl := hw7.symm
  have hla := onceLast_any 0 w6 ob mb wkS2.o hon
  rw [wk_last] at hla
  clear hon
  go_wp2_with fail
  refine hla.mono ?_
  clear hla
  rintro e w8 ⟨rfl, hB8⟩
  have ac := below_at hB8 ac (cell_lt ac)
  have HS8 := Lib.hid (HS6.out.below' hB8)
  have HB8 := Lib.hid (HB6.out.trans (hB8.mono HB6.out.size))
  clear hB8
  simp only
  obtain ⟨w9, hw9⟩ : ∃ w9, w9 = w8.alloc (.cells #[.int .i64 0, .int .i64 0] 28) := ⟨_, rfl⟩
  have hB9 : Below w8.heap.size w8 w9 := by rw [hw9]; exact belC (Below.refl _ _)
  have ac := below_at hB9 ac (cell_lt ac)
  have HS9 := Lib.hid (HS8.out.below' hB9)
  have HB9 := Lib.hid (HB8.out.trans (hB9.mono HB8.out.size))
  have HW9 := Lib.hid hw9
  clear hB9 hw9
  go_wp2_with fail
  rw [← HW9.out]
  refine (stTree_any w9 b _ wkS2 HS9.out).mono ?_
  rintro e w10 ⟨⟨tb, S1, rfl, htr⟩, hw10⟩
  obtain rfl := hw10.symm
  have hli : Calls Tryz.prog 44 #[.pointer (some ⟨tb, 0, none⟩), .string ⟨#[47]⟩] w9 _ := trList_any w9 tb S1 wkS2.t htr [47] (by rw [wk_nm]; decide)
  rw [wk_list] at hli
  clear htr
  go_wp2_with fail
  refine hli.mono ?_
  clear hli
  rintro e w11 ⟨la, lc, l, rfl, hls, hnm, -, hB11⟩
  have hl1 : l = [[97]] := by
    obtain ⟨k, ⟨hp, -⟩, rfl⟩ := (show NamesOfD wkS2.t.n.m 1 l from hls)
    rw [wk_nm] at hp
    rw [List.perm_singleton.1 (show k.Perm [((1, [97]), 2)] from hp)]
    rfl
  subst hl1
  have ac := below_at hB11 ac (cell_lt ac)
  have HS11 := Lib.hid (HS9.out.below' hB11)
  have HB11 := Lib.hid (HB9.out.trans (hB11.mono HB9.out.size))
  rw [show Res.code (.ok 1 : Res Int) = 0 from rfl]
  have HNM := Lib.hid hnm
  have hal := cell_lt ac
  clear hB11 hls hnm
  have hnx := stNext_any w11 b _ wkS2 HS11.out
  rw [show wkS2.next = 2 from rfl] at hnx
  go_wp2_with fail
  refine hnx.mono ?_
  clear hnx
  rintro e w12 ⟨rfl, hw12⟩
  obtain rfl := hw12.symm
  go_wp2_with fail
  obtain ⟨w13, hw13⟩ : ∃ w13, w13 = w11.alloc (.cells #[.string ⟨#[97]⟩] 9) := ⟨_, rfl⟩
  have hB13 : Below w11.heap.size w11 w13 := by rw [hw13]; exact belC (Below.refl _ _)
  have hny : NmsAt (fun _ => True) w13 (some ⟨w11.heap.size, 0, none⟩) [[97]] := by
    intro _
    refine ⟨w11.heap.size, 0, rfl, trivial, by rw [hw13]; simp, fun i hi => ?_⟩
    have : i = 0 := by simpa using hi
    subst this
    rw [hw13]
    go_simp
    rfl
  have htx2 := texts_any w13 _ _ la (some ⟨w11.heap.size, 0, none⟩) lc 1 [[97]] [[97]] (HNM.out.below hB13) hny (by decide)
  rw [decide_eq_true rfl] at htx2
  have HB13 := Lib.hid (HB11.out.trans (hB13.mono HB11.out.size))
  rw [← hw13]
  clear hw13 hB13 hny
  refine htx2.mono ?_
  clear htx2
  rintro e w14 ⟨rfl, hB14⟩
  go_wp2_with fail
  go_ret
  exact ⟨rfl, HB13.out.trans (hB14.mono HB13.out.size)⟩
end Go.Proofs.YtpjkimdmbgkpcaaGreatDoor
