import Derived.Test.YtghdhhbpbmhooaaGreatPkFet
import Derived.Test.YtghdhhbpbmhooaaGreatPkHear
import Derived.Test.YtghdhhbpbmhooaaGreatBytes8
/- an address that is read: whatever it asks and hears; a hand and a fetch -/
namespace Go.Proofs.YtghdhhbpbmhooaaGreat
open Go.RowKit Esch

section
variable {w : World} {b : Nat} {S : Nat → Prop} {s : FeS}
theorem FeS.ask_6 (h : s.at = 6) : s.ask = (qz, false) := by unfold FeS.ask; rw [if_pos h]
theorem FeS.ask_01 (h : s.at = 0 ∨ s.at = 1) : s.ask = (⟨9, 0, 0, 0, 0, 0, ⟨#[]⟩, Esch.p0⟩, true) := by unfold FeS.ask; rw [if_neg (by omega), if_pos h]
theorem FeS.ask_2' (h : s.at = 2) : s.ask = (⟨3, (chainP s.p s.addr).getD ((chainP s.p s.addr).length - 1) 0, s.p.epoch, (ofP s.p s.addr).2.1, 0, 0, ⟨#[]⟩, Esch.p0⟩, true) := by unfold FeS.ask; rw [if_neg (by omega), if_neg (by omega), if_pos h]
theorem FeS.ask_3 (h : s.at = 3) : s.ask = (⟨3, (chainP s.p s.addr).getD 0 0, s.p.epoch, (ofP s.p s.addr).2.1, 0, 0, ⟨#[]⟩, Esch.p0⟩, true) := by unfold FeS.ask; rw [if_neg (by omega), if_neg (by omega), if_neg (by omega), if_pos h]
theorem FeS.ask_4 (h : s.at = 4) : s.ask = (⟨2, (chainP s.p s.addr).getD 0 0, s.p.epoch, (ofP s.p s.addr).2.1, 0, 0, ⟨#[]⟩, Esch.p0⟩, true) := by unfold FeS.ask; rw [if_neg (by omega), if_neg (by omega), if_neg (by omega), if_neg (by omega), if_pos h]
theorem FeS.ask_5W (h : s.at = 5) (hk : s.kind = 1) : s.ask = (⟨1, (chainP s.p s.addr).getD s.i.toNat 0, s.p.epoch, (ofP s.p s.addr).2.1, 0, 0, s.s, Esch.p0⟩, true) := by unfold FeS.ask; rw [if_neg (by omega), if_neg (by omega), if_neg (by omega), if_neg (by omega), if_neg (by omega), if_pos hk]
theorem FeS.ask_5F (h : s.at = 5) (hk : s.kind ≠ 1) : s.ask = (⟨2, (chainP s.p s.addr).getD s.i.toNat 0, s.p.epoch, (ofP s.p s.addr).2.1, 0, 0, ⟨#[]⟩, Esch.p0⟩, true) := by unfold FeS.ask; rw [if_neg (by omega), if_neg (by omega), if_neg (by omega), if_neg (by omega), if_neg (by omega), if_neg hk]
theorem feAsk_any (h : FeAt w b S s) (hk : s.ok) : Calls Tryz.prog 72 #[.pointer (some ⟨b, 0, none⟩)] w (FeAskPost w s.ask) := by
  by_cases h6 : s.at = 6
  · rw [FeS.ask_6 h6]; exact feAsk_end h h6
  · have hl := chainP_lt (hk.un h6)
    have e : ∀ i : Int, 0 ≤ i → i < (chainP s.p s.addr).length → ∃ k : Nat, i = k ∧ k < (chainP s.p s.addr).length ∧ i.toNat = k := fun i h0 h1 => ⟨i.toNat, by omega, by omega, rfl⟩
    rcases hk.wh with h5 | h5 | h5 | h5 | h5 | h5 | h5
    · rw [FeS.ask_01 (Or.inl h5)]; exact feAsk_lay h (Or.inl h5)
    · rw [FeS.ask_01 (Or.inr h5)]; exact feAsk_lay h (Or.inr h5)
    · rw [FeS.ask_2' h5]; exact feAsk_last h h5 (by omega) (by omega)
    · rw [FeS.ask_3 h5]; exact feAsk_first h h5 (by omega)
    · rw [FeS.ask_4 h5]; exact feAsk_junk h h5 (by omega)
    · obtain ⟨a1, a2⟩ := hk.ix (Or.inl h5)
      obtain ⟨k, k1, k2, k3⟩ := e s.i a1 a2
      by_cases hkd : s.kind = 1
      · rw [FeS.ask_5W h5 hkd, k3]; exact feAsk_mendW h h5 (by omega) k k1 k2 hkd
      · rw [FeS.ask_5F h5 hkd, k3]; exact feAsk_mendF h h5 (by omega) k k1 k2 hkd
    · exact absurd h5 h6
theorem FeS.early_cases (s : FeS) (c : Int) (bb : Bool) : (s.early c bb).2 = true ∨ (bb = true ∧ s.early c bb = (s, false) ∧ (c = 45 → False) ∧ c ≠ 40 ∧ (c = 43 → s.at = 0 ∨ s.at = 1)) := by
  unfold FeS.early
  by_cases hb : bb = false
  · left; rw [if_pos hb]
  rw [if_neg hb]
  have hbt : bb = true := by cases bb; exact absurd rfl hb; rfl
  by_cases h1 : c = 45 ∧ (s.at = 0 ∨ s.at = 1)
  · left; rw [if_pos h1]
  rw [if_neg h1]
  by_cases h2 : c = 45
  · left; rw [if_pos h2]
  rw [if_neg h2]
  by_cases h3 : c = 40
  · left; rw [if_pos h3]
  rw [if_neg h3]
  by_cases h4 : c = 43 ∧ ¬ (s.at = 0 ∨ s.at = 1)
  · left; rw [if_pos h4]
  rw [if_neg h4]
  right
  exact ⟨hbt, rfl, fun e => h2 e, h3, fun e => Classical.byContradiction fun h => h4 ⟨e, h⟩⟩
theorem feHear_any (x : AnS) (a : Option Addr) (c : Nat) (h : FeAt w b S s) (hk : s.ok) (bb : Bool) (S' : Nat → Prop) (hl0 : ListsAt S' w a x.p.chains) (hS : ∀ k, S' k → k ≠ b) : Calls Tryz.prog 73 #[.pointer (some ⟨b, 0, none⟩), aV x a c, .bool bb] w (FePost w b S (s.hear x bb)) := by
  unfold FeS.hear
  by_cases h6 : s.at = 6
  · rw [if_pos h6]; exact feHear_end x a c h h6 bb
  rw [if_neg h6]
  rcases s.early_cases x.code bb with hy | ⟨rfl, hno, -, -, -⟩
  · rw [if_pos hy]; exact feHear_early x a c h h6 bb hy
  rw [if_neg (by rw [hno]; simp)]
  unfold FeS.look
  have hl := chainP_lt (hk.un h6)
  by_cases h0 : s.at = 0
  · rw [if_pos h0]
    by_cases e : x.code = 0
    · cases hg : goodB x.p
      · rw [if_neg (by simp)]; exact feHear_layN x a c h h0 hno e S' hl0 hS hg
      · rw [if_pos ⟨e, rfl⟩]; exact feHear_layG x a c h h0 hno e S' hl0 hS hg
    · rw [if_neg (fun h => e h.1)]; exact feHear_layE x a c h h0 hno e
  rw [if_neg h0]
  by_cases h1 : s.at = 1
  · rw [if_pos h1]
    by_cases e : x.code = 0
    · cases hg : goodB x.p
      · rw [if_neg (by simp)]; exact feHear_chkN x a c h h1 hno e S' hl0 hS hg
      · by_cases hq : x.p.epoch = s.p.epoch
        · rw [if_neg (fun h => h.2.2 hq)]; exact feHear_chkS x a c h h1 hno e S' hl0 hS hg hq
        · rw [if_pos ⟨e, rfl, hq⟩]; exact feHear_chkG x a c h h1 hno e S' hl0 hS hg hq
    · rw [if_neg (fun h => e h.1)]; exact feHear_chkE x a c h h1 hno e
  rw [if_neg h1]
  by_cases h2 : s.at = 2
  · rw [if_pos h2]
    by_cases e : x.code = 0
    · rw [if_pos e]; exact feHear_last0 x a c h h2 hno e
    rw [if_neg e]
    by_cases e1 : x.code = 46
    · rw [if_pos e1]; exact feHear_lastJ x a c h h2 hno e1
    rw [if_neg e1]
    by_cases e2 : x.code = 42
    · rw [if_pos e2]
      by_cases en : (chainP s.p s.addr).length = 1
      · rw [if_pos en]; exact feHear_last1 x a c h h2 hno e2 en
      · rw [if_neg en]; exact feHear_lastU x a c h h2 hno e2 en
    · rw [if_neg e2]; exact feHear_lastF x a c h h2 hno ⟨e, e1, e2⟩
  rw [if_neg h2]
  by_cases h3 : s.at = 3
  · rw [if_pos h3]
    by_cases e : x.code = 0
    · rw [if_pos e]; exact feHear_first0 x a c h h3 hno e
    rw [if_neg e]
    by_cases e1 : x.code = 46
    · rw [if_pos e1]; exact feHear_firstJ x a c h h3 hno e1
    rw [if_neg e1]
    by_cases e2 : x.code = 42
    · rw [if_pos e2]; exact feHear_firstU x a c h h3 hno e2
    · rw [if_neg e2]; exact feHear_firstF x a c h h3 hno ⟨e, e1, e2⟩
  rw [if_neg h3]
  by_cases h4 : s.at = 4
  · rw [if_pos h4]
    by_cases e : x.code = 0
    · rw [if_pos e]; exact feHear_junk0 x a c h h4 hno e
    rw [if_neg e]
    by_cases e1 : x.code = 41
    · rw [if_pos e1]; exact feHear_junkW x a c h h4 hno e1
    · rw [if_neg e1]; exact feHear_junkF x a c h h4 hno ⟨e, e1⟩
  rw [if_neg h4]
  have h5 : s.at = 5 := by have := hk.wh; omega
  obtain ⟨a1, a2⟩ := hk.ix (Or.inl h5)
  by_cases e : x.code = 0 ∨ x.code = 41
  · rw [if_pos e]; exact feHear_mend x a c h h5 hno e s.i.toNat (by omega) (by omega)
  · rw [if_neg e]; exact feHear_mendF x a c h h5 hno ⟨fun h => e (Or.inl h), fun h => e (Or.inr h)⟩
end
theorem fe0_ok (q : Proj) (a : Int) (fill : Bool) : (fe0 q a fill).ok := by
  unfold fe0
  by_cases h : (ofP q a).2.2 = true
  · rw [if_pos h]
    exact ⟨by simp, by simp, fun _ => h, by simp⟩
  · rw [if_neg h]
    exact ⟨by simp, by simp, by simp, by simp⟩
theorem ofP_true {p q : Proj} {x : Int} (h : (ofP p x).2.2 = true) (hq : goodB q = true) : (ofP q x).2.2 = true := by
  obtain ⟨-, h0, h1, -⟩ := ofP_ok h
  unfold ofP
  rw [if_pos ⟨hq, h0, h1⟩]
theorem FeS.over_ok (s : FeS) (k : Int) (d : ByteArray) : (s.over k d).ok := ⟨by simp [FeS.over], by simp [FeS.over], by simp [FeS.over], by simp [FeS.over]⟩
theorem FeS.fail_ok (s : FeS) (e : Int) : (s.fail e).ok := ⟨by simp [FeS.fail], by simp [FeS.fail], by simp [FeS.fail], by simp [FeS.fail]⟩
theorem FeS.none_ok {s : FeS} (h : (ofP s.p s.addr).2.2 = true) : s.none.ok := by
  unfold FeS.none
  by_cases e : s.fill = true
  · rw [if_pos e]; exact ⟨by simp, by simp, fun _ => h, by simp⟩
  · rw [if_neg e]; exact s.over_ok _ _
theorem FeS.mended_ok {s : FeS} (h : (ofP s.p s.addr).2.2 = true) (hi : 0 ≤ s.i) : (s.mended (chainP s.p s.addr).length).ok := by
  unfold FeS.mended
  by_cases e : ((chainP s.p s.addr).length : Int) ≤ s.i + 1
  · rw [if_pos e]; exact ⟨by simp, by simp, by simp, by simp⟩
  · rw [if_neg e]
    have h1 : s.i + 1 < ((chainP s.p s.addr).length : Int) := by omega
    have h2 : 0 ≤ s.i + 1 := by omega
    exact ⟨by simp, by simp, fun _ => h, fun _ => ⟨h2, h1⟩⟩
theorem FeS.hear_ok {s : FeS} (h : s.ok) (x : AnS) (bb : Bool) : (s.hear x bb).ok := by
  unfold FeS.hear
  by_cases h6 : s.at = 6
  · rw [if_pos h6]; exact h
  rw [if_neg h6]
  have un := h.un h6
  have hw := h.wh
  rcases s.early_cases x.code bb with hy | ⟨rfl, hno, -, -, -⟩
  · rw [if_pos hy]
    unfold FeS.early
    by_cases hb : bb = false
    · rw [if_pos hb]; exact h
    rw [if_neg hb]
    by_cases h1 : x.code = 45 ∧ (s.at = 0 ∨ s.at = 1)
    · rw [if_pos h1]; exact h
    rw [if_neg h1]
    by_cases h2 : x.code = 45
    · rw [if_pos h2]
      have h01 : ¬ (s.at = 0 ∨ s.at = 1) := fun e => h1 ⟨h2, e⟩
      exact ⟨by simp, fun _ => by show s.at = 2 ∨ s.at = 3 ∨ s.at = 4 ∨ s.at = 5; omega, fun _ => un, fun e => h.ix (Or.inl (by rcases e with e | e; exact absurd (show (1 : Int) = 5 from e) (by decide); exact e.2))⟩
    rw [if_neg h2]
    by_cases h3 : x.code = 40
    · rw [if_pos h3]; exact ⟨by simp, by simp, fun _ => un, by simp⟩
    rw [if_neg h3]
    by_cases h4 : x.code = 43 ∧ ¬ (s.at = 0 ∨ s.at = 1)
    · rw [if_pos h4]; exact s.over_ok _ _
    · rw [if_neg h4]; exact h
  rw [if_neg (by rw [hno]; simp)]
  unfold FeS.look
  by_cases h0 : s.at = 0
  · rw [if_pos h0]
    by_cases e : x.code = 0 ∧ goodB x.p = true
    · rw [if_pos e]; exact ⟨by simp, by simp, fun _ => ofP_true un e.2, by simp⟩
    · rw [if_neg e]; exact h
  rw [if_neg h0]
  by_cases h1 : s.at = 1
  · rw [if_pos h1]
    by_cases e : x.code = 0 ∧ goodB x.p = true ∧ x.p.epoch ≠ s.p.epoch
    · rw [if_pos e]; exact ⟨by simp, by simp, fun _ => ofP_true un e.2.1, by simp⟩
    · rw [if_neg e]
      have hwas := h.was h1
      exact ⟨by show s.was = 0 ∨ s.was = 1 ∨ s.was = 2 ∨ s.was = 3 ∨ s.was = 4 ∨ s.was = 5 ∨ s.was = 6; omega, fun e' => by have e' : s.was = 1 := e'; omega, fun _ => un, fun e' => h.ix (Or.inr ⟨h1, by rcases e' with e' | e'; exact e'; exact e'.2⟩)⟩
  rw [if_neg h1]
  by_cases h2 : s.at = 2
  · rw [if_pos h2]
    by_cases e : x.code = 0
    · rw [if_pos e]; exact s.over_ok _ _
    rw [if_neg e]
    by_cases e1 : x.code = 46
    · rw [if_pos e1]; exact s.over_ok _ _
    rw [if_neg e1]
    by_cases e2 : x.code = 42
    · rw [if_pos e2]
      by_cases en : (chainP s.p s.addr).length = 1
      · rw [if_pos en]; exact FeS.none_ok un
      · rw [if_neg en]; exact ⟨by simp, by simp, fun _ => un, by simp⟩
    · rw [if_neg e2]; exact s.fail_ok _
  rw [if_neg h2]
  by_cases h3 : s.at = 3
  · rw [if_pos h3]
    by_cases e : x.code = 0
    · rw [if_pos e]; exact FeS.mended_ok (s := { s with kind := 1, s := x.data, i := 0 }) un (Int.le_refl 0)
    rw [if_neg e]
    by_cases e1 : x.code = 46
    · rw [if_pos e1]; exact FeS.mended_ok (s := { s with kind := 2, s := ⟨#[]⟩, i := 0 }) un (Int.le_refl 0)
    rw [if_neg e1]
    by_cases e2 : x.code = 42
    · rw [if_pos e2]; exact FeS.none_ok un
    · rw [if_neg e2]; exact s.fail_ok _
  rw [if_neg h3]
  by_cases h4 : s.at = 4
  · rw [if_pos h4]
    by_cases e : x.code = 0
    · rw [if_pos e]; exact FeS.mended_ok (s := { s with kind := 2, s := ⟨#[]⟩, i := 0 }) un (Int.le_refl 0)
    rw [if_neg e]
    by_cases e1 : x.code = 41
    · rw [if_pos e1]; exact ⟨by simp, by simp, fun _ => un, by simp⟩
    · rw [if_neg e1]; exact s.fail_ok _
  rw [if_neg h4]
  have h5 : s.at = 5 := by omega
  by_cases e : x.code = 0 ∨ x.code = 41
  · rw [if_pos e]; exact FeS.mended_ok un (h.ix (Or.inl h5)).1
  · rw [if_neg e]; exact s.fail_ok _
structure Fe1 (w0 : World) (c hb ab : Nat) (V : Nat → Prop) (hd : HdS) (fe : FeS) (w : World) : Prop where
  at' : ∃ U S T, HandAt w hb U T hd ∧ T ≤ 16 * (c + 1) ∧ FeAt w ab S fe ∧ (∀ k, S k → k < w.heap.size) ∧ (∀ k, U k → ¬ S k) ∧ ∀ k, U k ∨ S k → V k
  ok : fe.ok
  lt : ∀ k, V k → k < w.heap.size
  old : ∀ k, V k → w0.heap.size ≤ k
  below : Below w0.heap.size w0 w
def Fe1HPost (w0 : World) (c hb ab : Nat) (V : Nat → Prop) (w : World) (fe : FeS) (r : (AnS × Bool) × HdS) (e : Ending) (w' : World) : Prop :=
  ∃ a cc, e = .returned (.tuple #[aV r.1.1 a cc, .bool r.1.2]) ∧ ListsAt (From w.heap.size) w' a r.1.1.p.chains ∧ Fe1 w0 c hb ab (grow V w w') r.2 fe w' ∧ Mod V w w'
def Fe1Post (w0 : World) (c hb ab : Nat) (V : Nat → Prop) (w : World) (hd : HdS) (fe : FeS) (e : Ending) (w' : World) : Prop := e = .returned (.tuple #[]) ∧ Fe1 w0 c hb ab (grow V w w') hd fe w' ∧ Mod V w w'
section
variable {w0 w : World} {c hb ab : Nat} {V : Nat → Prop} {hd : HdS} {fe : FeS}
theorem Fe1.mod {F : Nat → Prop} {w' : World} (h : Fe1 w0 c hb ab V hd fe w) (hM : Mod F w w') (hF : ∀ k, V k → ¬ F k) (hw : ∀ k, k < w0.heap.size → ¬ F k) : Fe1 w0 c hb ab V hd fe w' := by
  obtain ⟨⟨U, S, T, hH, hT, hA, hs, hu, hv⟩, hk, hl, ho, hB⟩ := h
  have hz := hM.size
  exact ⟨⟨U, S, T, hH.mod hM (fun k hk => hF k (hv k (Or.inl hk))), hT, hA.mod hM (fun k hk _ => hF k (hv k (Or.inr hk))), fun k hk => Nat.lt_of_lt_of_le (hs k hk) hz, hu, hv⟩, hk, fun k hk => Nat.lt_of_lt_of_le (hl k hk) hz, ho, hB.trans (hM.below_at hB.size hw)⟩
theorem Fe1.below' {w' : World} (h : Fe1 w0 c hb ab V hd fe w) (hB : Below w.heap.size w w') : Fe1 w0 c hb ab V hd fe w' := h.mod (F := none') (Mod.of_below hB) (fun _ _ => id) (fun _ _ => id)
theorem Fe1.ablt (h : Fe1 w0 c hb ab V hd fe w) : ab < w.heap.size := by
  obtain ⟨⟨U, S, T, hH, hT, hA, -⟩, -⟩ := h
  exact hA.lt
theorem Fe1.more (h : Fe1 w0 c hb ab V hd fe w) {c' : Nat} (hc : c ≤ c') : Fe1 w0 c' hb ab V hd fe w := by
  obtain ⟨⟨U, S, T, hH, hT, h1⟩, h2, h3, h4, h5⟩ := h
  exact ⟨⟨U, S, T, hH, by omega, h1⟩, h2, h3, h4, h5⟩
theorem Fe1.cast (h : Fe1 w0 c hb ab V hd fe w) {s : HdS × FeS} (e : s = (hd, fe)) : Fe1 w0 c hb ab V s.1 s.2 w := by rw [e]; exact h
theorem fe1_ask (h : Fe1 w0 c hb ab V hd fe w) : Calls Tryz.prog 72 #[.pointer (some ⟨ab, 0, none⟩)] w (FeAskPost w fe.ask) := by
  obtain ⟨⟨U, S, T, hH, hT, hA, -⟩, hk, -⟩ := h
  exact feAsk_any hA hk
theorem fe1_over (h : Fe1 w0 c hb ab V hd fe w) : Calls Tryz.prog 74 #[.pointer (some ⟨ab, 0, none⟩)] w fun e w' => e = .returned (FOverV fe) ∧ Mod none' w w' := by
  obtain ⟨⟨U, S, T, hH, hT, hA, -⟩, hk, -⟩ := h
  exact feOver_any hA
theorem fe1_hand (h : Fe1 w0 c hb ab V hd fe w) (hc : c < 1000000) (q : QS) (hq : q.p = Esch.p0) (hds : q.data.size ≤ 9223372036854775807) (f : Int) :
    Calls Tryz.prog 26 #[.pointer (some ⟨hb, 0, none⟩), qV q none 0, .int .i64 f] w (Fe1HPost w0 (c + 1) hb ab V w fe (hd.ask q f)) := by
  obtain ⟨⟨U, S, T, hH, hT, hA, hs, hu, hv⟩, hk, hl, ho, hB⟩ := h
  refine (handAsk_any q none 0 f hH (by omega) hds (by rw [hq]; exact small_nil) none' (by rw [hq]; exact ListsAt.nil _ _ _) (fun _ h => h.elim)).mono ?_
  rintro e w' ⟨a, c', rfl, hl', hH', hM⟩
  have hz := hM.size
  refine ⟨a, c', rfl, hl', ⟨⟨grow U w w', S, _, hH', by omega, hA.mod hM (fun k hk _ hu' => hu k hu' hk), fun k hk => Nat.lt_of_lt_of_le (hs k hk) hz, fun k hk hS => ?_, fun k hk => ?_⟩, hk, fun k hk => ?_, fun k hk => ?_, hB.trans (hM.below_at hB.size (fun k hk e => by have := ho k (hv k (Or.inl e)); omega))⟩, hM.mono (fun k _ hk => hv k (Or.inl hk))⟩
  · rcases hk with hk | hk
    · exact hu k hk hS
    · have := hs k hS; omega
  · rcases hk with (hk | hk) | hk
    · exact Or.inl (hv k (Or.inl hk))
    · exact Or.inr hk
    · exact Or.inl (hv k (Or.inr hk))
  · rcases hk with hk | hk
    · have := hl k hk; omega
    · exact hk.2
  · rcases hk with hk | hk
    · exact ho k hk
    · have := hB.size; omega
theorem fe1_hear (h : Fe1 w0 c hb ab V hd fe w) (x : AnS) (a : Option Addr) (cc : Nat) (b : Bool) (S' : Nat → Prop) (hl0 : ListsAt S' w a x.p.chains) (hS : ∀ k, S' k → k ≠ ab) :
    Calls Tryz.prog 73 #[.pointer (some ⟨ab, 0, none⟩), aV x a cc, .bool b] w (Fe1Post w0 c hb ab V w hd (fe.hear x b)) := by
  obtain ⟨⟨U, S, T, hH, hT, hA, hs, hu, hv⟩, hk, hl, ho, hB⟩ := h
  refine (feHear_any x a cc hA hk b S' hl0 hS).mono ?_
  rintro e w' ⟨rfl, hA', hM⟩
  have hz := hM.size
  have hba := hv ab (Or.inr hA.sb)
  refine ⟨rfl, ⟨⟨U, _, T, hH.mod hM (fun k hk e => hu k hk (by subst e; exact hA.sb)), hT, hA', fun k hk => ?_, fun k hk hS => ?_, fun k hk => ?_⟩, FeS.hear_ok hk x b, fun k hk => ?_, fun k hk => ?_, hB.trans (hM.below_at hB.size (fun k hk e => by have := ho ab hba; omega))⟩, hM.mono (fun k _ e => by subst e; exact hba)⟩
  · rcases hk with hk | hk
    · exact Nat.lt_of_lt_of_le (hs k hk) hz
    · exact hk.2
  · rcases hS with hS | hS
    · exact hu k hk hS
    · have := hl k (hv k (Or.inl hk)); omega
  · rcases hk with hk | hk | hk
    · exact Or.inl (hv k (Or.inl hk))
    · exact Or.inl (hv k (Or.inr hk))
    · exact Or.inr hk
  · rcases hk with hk | hk
    · have := hl k hk; omega
    · exact hk.2
  · rcases hk with hk | hk
    · exact ho k hk
    · have := hB.size; omega
end
/-- a hand that is there, and a fetch that is new -/
theorem fe1_new {w0 w : World} {c hb T : Nat} {U : Nat → Prop} {hd : HdS} (hH : HandAt w hb U T hd) (hT : T ≤ 16 * (c + 1)) (ho : ∀ k, U k → w0.heap.size ≤ k) (hB0 : Below w0.heap.size w0 w) (S : Nat → Prop) (q : Proj) (x : Int) (fill : Bool) (a : Option Addr) (cc : Nat) (hs : Small q.chains) (hl : ListsAt S w a q.chains) :
    Calls Tryz.prog 71 #[.agg #[.int .i64 q.epoch, .slice a q.chains.length cc], .int .i64 x, .bool fill] w fun e w' => ∃ ab, e = .returned (.pointer (some ⟨ab, 0, none⟩)) ∧ Fe1 w0 c hb ab (grow U w w') hd (fe0 q x fill) w' ∧ Below w.heap.size w w' := by
  refine (feNew_any S w q x fill a cc hs hl).mono ?_
  rintro e w' ⟨ab, rfl, hA, hB⟩
  have hz := hB.size
  have hz0 := hB0.size
  refine ⟨ab, rfl, ⟨⟨U, fun k => w.heap.size ≤ k ∧ k < w'.heap.size, T, hH.below hB, hT, hA.sub (fun k hk h => ⟨h, hk⟩), fun k hk => hk.2, fun k hk h => ?_, fun k hk => hk⟩, fe0_ok q x fill, fun k hk => ?_, fun k hk => ?_, hB0.trans (hB.mono hz0)⟩, hB⟩
  · have := hH.lt k hk; omega
  · rcases hk with hk | hk
    · have := hH.lt k hk; omega
    · exact hk.2
  · rcases hk with hk | hk
    · exact ho k hk
    · omega
theorem FeS.ask_form (s : FeS) {b : Bool} (hb : s.ask.2 = b) : ∃ qk qu qe qp qs qn qd, s.ask = (⟨qk, qu, qe, qp, qs, qn, qd, Esch.p0⟩, b) ∧ (s.s.size ≤ 9223372036854775807 → qd.size ≤ 9223372036854775807) := by
  have h1 : s.ask.1.p = Esch.p0 := by
    unfold FeS.ask
    repeat' split
    all_goals rfl
  have h2 : s.s.size ≤ 9223372036854775807 → s.ask.1.data.size ≤ 9223372036854775807 := fun h => by
    unfold FeS.ask
    repeat' split
    all_goals first | exact h | exact (by decide : (ByteArray.mk #[]).size ≤ 9223372036854775807)
  generalize s.ask = r at h1 h2 hb ⊢
  obtain ⟨⟨qk, qu, qe, qp, qs, qn, qd, p⟩, b'⟩ := r
  simp only at h1 h2 hb
  subst h1 hb
  exact ⟨qk, qu, qe, qp, qs, qn, qd, rfl, h2⟩
theorem FeS.ask_2 {s : FeS} : s.ask.2 = decide (s.at ≠ 6) := by
  unfold FeS.ask
  by_cases h : s.at = 6
  · rw [if_pos h]; simp [h]
  · rw [if_neg h]
    have : decide (s.at ≠ 6) = true := by simp [h]
    rw [this]
    by_cases h0 : s.at = 0 ∨ s.at = 1
    · rw [if_pos h0]
    · rw [if_neg h0]
      by_cases h2 : s.at = 2
      · rw [if_pos h2]
      · rw [if_neg h2]
        by_cases h3 : s.at = 3
        · rw [if_pos h3]
        · rw [if_neg h3]
          by_cases h4 : s.at = 4
          · rw [if_pos h4]
          · rw [if_neg h4]
            by_cases h5 : s.kind = 1
            · rw [if_pos h5]
            · rw [if_neg h5]
end Go.Proofs.YtghdhhbpbmhooaaGreat
/- a hand alone; an address that is read by it -/
namespace Go.Proofs.YtghdhhbpbmhooaaGreat
open Go.RowKit Esch

structure Hd1 (w0 : World) (c hb : Nat) (V : Nat → Prop) (hd : HdS) (w : World) : Prop where
  at' : ∃ U T, HandAt w hb U T hd ∧ T ≤ 16 * (c + 1) ∧ ∀ k, U k → V k
  lt : ∀ k, V k → k < w.heap.size
  old : ∀ k, V k → w0.heap.size ≤ k
  below : Below w0.heap.size w0 w
/-- what a hand brings is no longer than a page -/
theorem NodesAt.data {w : World} {nb g cap ob lb lm T : Nat} {ub pb mb D : Nat → Nat} {s : NdS} (h : NodesAt w nb g cap ob lb lm T ub pb mb D s) (q : QS) : (s.do q).1.data.size ≤ 4096 := by
  unfold NdS.do
  by_cases h1 : 1 ≤ q.kind ∧ q.kind ≤ 5
  · rw [if_pos h1]
    by_cases h2 : 0 ≤ q.unit ∧ q.unit < 16
    · rw [if_pos h2]
      have hok := (h.unit q.unit.toNat (by omega)).2
      show ((s.units q.unit.toNat).do q.kind q.epoch q.page q.data).1.2.2.1.size ≤ 4096
      generalize s.units q.unit.toNat = u at hok
      unfold UnS.do
      have h0 : (ByteArray.mk #[]).size ≤ 4096 := by decide
      have hr : (u.pg.read q.page).1.size ≤ 4096 := by
        unfold PgS.read
        by_cases e : inB q.page = false
        · rw [if_pos e]; exact h0
        rw [if_neg e]
        by_cases e1 : u.pg.kind q.page = 3
        · rw [if_pos e1]; exact h0
        rw [if_neg e1]
        by_cases e2 : u.pg.kind q.page = 0
        · rw [if_pos e2]; exact h0
        rw [if_neg e2]
        by_cases e3 : u.pg.kind q.page = 2
        · rw [if_pos e3]; exact h0
        rw [if_neg e3]
        show (u.pg.text q.page).size ≤ 4096
        unfold PgS.text
        cases hg : get u.pg.m q.page with
        | none => exact h0
        | some v => exact (hok.kinds _ (mem_of_get hg)).2
      by_cases e1 : u.down = true
      · rw [if_pos e1]; exact h0
      rw [if_neg e1]
      by_cases e2 : q.kind < 1 ∨ 5 < q.kind
      · rw [if_pos e2]; exact h0
      rw [if_neg e2]
      by_cases e3 : q.epoch < u.epoch
      · rw [if_pos e3]; exact h0
      rw [if_neg e3]
      by_cases e4 : q.kind = 1
      · rw [if_pos e4]; exact h0
      rw [if_neg e4]
      by_cases e5 : q.kind = 2
      · rw [if_pos e5]; exact h0
      rw [if_neg e5]
      by_cases e6 : q.kind = 3
      · rw [if_pos e6]; exact hr
      rw [if_neg e6]
      by_cases e7 : q.kind = 4
      · rw [if_pos e7]; exact h0
      rw [if_neg e7]; exact h0
    · rw [if_neg h2]; exact (by decide : (ByteArray.mk #[]).size ≤ 4096)
  · rw [if_neg h1]
    by_cases h2 : 6 ≤ q.kind ∧ q.kind ≤ 8
    · rw [if_pos h2]; exact (by decide : (ByteArray.mk #[]).size ≤ 4096)
    · rw [if_neg h2]
      by_cases h3 : 9 ≤ q.kind ∧ q.kind ≤ 11
      · rw [if_pos h3]; exact (by decide : (ByteArray.mk #[]).size ≤ 4096)
      · rw [if_neg h3]; exact (by decide : (ByteArray.mk #[]).size ≤ 4096)
theorem HandAt.data {w : World} {hb T : Nat} {U : Nat → Prop} {hd : HdS} (h : HandAt w hb U T hd) (q : QS) (f : Int) : (hd.ask q f).1.1.data.size ≤ 4096 := by
  obtain ⟨⟨nb, Un, Vv, C, ao, cap, es, hI, -⟩, -⟩ := h
  obtain ⟨⟨g, cap, ob, lb, lm, ub, pb, mb, D, hN, -⟩, -⟩ := hI.nd
  unfold HdS.ask
  by_cases h0 : f = 0
  · rw [if_pos h0]; exact hN.data q
  rw [if_neg h0]
  by_cases h2 : f = 2
  · rw [if_pos h2]; exact (by decide : (ByteArray.mk #[]).size ≤ 4096)
  rw [if_neg h2]
  by_cases h3 : f = 3 ∧ hd.held.length < 64
  · rw [if_pos h3]; exact (by decide : (ByteArray.mk #[]).size ≤ 4096)
  · rw [if_neg h3]; exact (by decide : (ByteArray.mk #[]).size ≤ 4096)
theorem Fe1.data {w0 w : World} {c hb ab : Nat} {V : Nat → Prop} {hd : HdS} {fe : FeS} (h : Fe1 w0 c hb ab V hd fe w) (q : QS) (f : Int) : (hd.ask q f).1.1.data.size ≤ 4096 := by
  obtain ⟨⟨U, S, T, hH, -⟩, -⟩ := h
  exact hH.data q f
theorem FeS.hear_s (s : FeS) (x : AnS) (b : Bool) (h : s.s.size ≤ 4096) (hx : x.data.size ≤ 4096) : (s.hear x b).s.size ≤ 4096 := by
  have h0 : (ByteArray.mk #[]).size ≤ 4096 := by decide
  have e : (s.hear x b).s = s.s ∨ (s.hear x b).s = ⟨#[]⟩ ∨ (s.hear x b).s = x.data := by
    have hn : s.none.s = s.s ∨ s.none.s = ⟨#[]⟩ := by
      unfold FeS.none
      by_cases e : s.fill = true
      · rw [if_pos e]; exact Or.inl rfl
      · rw [if_neg e]; exact Or.inr rfl
    unfold FeS.hear
    by_cases h6 : s.at = 6
    · rw [if_pos h6]; exact Or.inl rfl
    rw [if_neg h6]
    by_cases hy : (s.early x.code b).2 = true
    · rw [if_pos hy]
      unfold FeS.early
      by_cases g1 : b = false
      · rw [if_pos g1]; exact Or.inl rfl
      rw [if_neg g1]
      by_cases g2 : x.code = 45 ∧ (s.at = 0 ∨ s.at = 1)
      · rw [if_pos g2]; exact Or.inl rfl
      rw [if_neg g2]
      by_cases g3 : x.code = 45
      · rw [if_pos g3]; exact Or.inl rfl
      rw [if_neg g3]
      by_cases g4 : x.code = 40
      · rw [if_pos g4]; exact Or.inl rfl
      rw [if_neg g4]
      by_cases g5 : x.code = 43 ∧ ¬ (s.at = 0 ∨ s.at = 1)
      · rw [if_pos g5]; exact Or.inr (Or.inl rfl)
      · rw [if_neg g5]; exact Or.inl rfl
    rw [if_neg hy]
    unfold FeS.look
    by_cases k0 : s.at = 0
    · rw [if_pos k0]
      by_cases g : x.code = 0 ∧ goodB x.p = true
      · rw [if_pos g]; exact Or.inl rfl
      · rw [if_neg g]; exact Or.inl rfl
    rw [if_neg k0]
    by_cases k1 : s.at = 1
    · rw [if_pos k1]
      by_cases g : x.code = 0 ∧ goodB x.p = true ∧ x.p.epoch ≠ s.p.epoch
      · rw [if_pos g]; exact Or.inl rfl
      · rw [if_neg g]; exact Or.inl rfl
    rw [if_neg k1]
    by_cases k2 : s.at = 2
    · rw [if_pos k2]
      by_cases g : x.code = 0
      · rw [if_pos g]; exact Or.inr (Or.inr rfl)
      rw [if_neg g]
      by_cases g1 : x.code = 46
      · rw [if_pos g1]; exact Or.inr (Or.inl rfl)
      rw [if_neg g1]
      by_cases g2 : x.code = 42
      · rw [if_pos g2]
        by_cases g3 : (chainP s.p s.addr).length = 1
        · rw [if_pos g3]; exact hn.imp id Or.inl
        · rw [if_neg g3]; exact Or.inl rfl
      · rw [if_neg g2]; exact Or.inr (Or.inl rfl)
    rw [if_neg k2]
    by_cases k3 : s.at = 3
    · rw [if_pos k3]
      by_cases g : x.code = 0
      · rw [if_pos g]; exact Or.inr (Or.inr rfl)
      rw [if_neg g]
      by_cases g1 : x.code = 46
      · rw [if_pos g1]; exact Or.inr (Or.inl rfl)
      rw [if_neg g1]
      by_cases g2 : x.code = 42
      · rw [if_pos g2]; exact hn.imp id Or.inl
      · rw [if_neg g2]; exact Or.inr (Or.inl rfl)
    rw [if_neg k3]
    by_cases k4 : s.at = 4
    · rw [if_pos k4]
      by_cases g : x.code = 0
      · rw [if_pos g]; exact Or.inr (Or.inl rfl)
      rw [if_neg g]
      by_cases g1 : x.code = 41
      · rw [if_pos g1]; exact Or.inl rfl
      · rw [if_neg g1]; exact Or.inr (Or.inl rfl)
    rw [if_neg k4]
    by_cases g : x.code = 0 ∨ x.code = 41
    · rw [if_pos g]; exact Or.inl rfl
    · rw [if_neg g]; exact Or.inr (Or.inl rfl)
  rcases e with e | e | e <;> rw [e] <;> assumption
section
variable {w0 w : World} {c hb : Nat} {V : Nat → Prop} {hd : HdS}
theorem Hd1.mod {F : Nat → Prop} {w' : World} (h : Hd1 w0 c hb V hd w) (hM : Mod F w w') (hF : ∀ k, V k → ¬ F k) (hw : ∀ k, k < w0.heap.size → ¬ F k) : Hd1 w0 c hb V hd w' := by
  obtain ⟨⟨U, T, hH, hT, hv⟩, hl, ho, hB⟩ := h
  have hz := hM.size
  exact ⟨⟨U, T, hH.mod hM (fun k hk => hF k (hv k hk)), hT, hv⟩, fun k hk => Nat.lt_of_lt_of_le (hl k hk) hz, ho, hB.trans (hM.below_at hB.size hw)⟩
theorem Hd1.below' {w' : World} (h : Hd1 w0 c hb V hd w) (hB : Below w.heap.size w w') : Hd1 w0 c hb V hd w' := h.mod (F := none') (Mod.of_below hB) (fun _ _ => id) (fun _ _ => id)
theorem Hd1.more (h : Hd1 w0 c hb V hd w) {c' : Nat} (hc : c ≤ c') : Hd1 w0 c' hb V hd w := by
  obtain ⟨⟨U, T, hH, hT, hv⟩, h2, h3, h4⟩ := h
  exact ⟨⟨U, T, hH, by omega, hv⟩, h2, h3, h4⟩
theorem Fe1.toHd {ab : Nat} {fe : FeS} (h : Fe1 w0 c hb ab V hd fe w) : Hd1 w0 c hb V hd w := by
  obtain ⟨⟨U, S, T, hH, hT, hA, hs, hu, hv⟩, hk, hl, ho, hB⟩ := h
  exact ⟨⟨U, T, hH, hT, fun k hk => hv k (Or.inl hk)⟩, hl, ho, hB⟩
def Hd1HPost (w0 : World) (c hb : Nat) (V : Nat → Prop) (w : World) (r : (AnS × Bool) × HdS) (e : Ending) (w' : World) : Prop :=
  ∃ a cc, e = .returned (.tuple #[aV r.1.1 a cc, .bool r.1.2]) ∧ ListsAt (From w.heap.size) w' a r.1.1.p.chains ∧ Hd1 w0 c hb (grow V w w') r.2 w' ∧ Mod V w w'
theorem hd1_hand (h : Hd1 w0 c hb V hd w) (hc : c < 1000000) (q : QS) (hq : q.p = Esch.p0) (hds : q.data.size ≤ 9223372036854775807) (f : Int) :
    Calls Tryz.prog 26 #[.pointer (some ⟨hb, 0, none⟩), qV q none 0, .int .i64 f] w (Hd1HPost w0 (c + 1) hb V w (hd.ask q f)) := by
  obtain ⟨⟨U, T, hH, hT, hv⟩, hl, ho, hB⟩ := h
  refine (handAsk_any q none 0 f hH (by omega) hds (by rw [hq]; exact small_nil) none' (by rw [hq]; exact ListsAt.nil _ _ _) (fun _ h => h.elim)).mono ?_
  rintro e w' ⟨a, c', rfl, hl', hH', hM⟩
  have hz := hM.size
  refine ⟨a, c', rfl, hl', ⟨⟨grow U w w', _, hH', by omega, fun k hk => hk.imp (hv k) id⟩, fun k hk => ?_, fun k hk => ?_, hB.trans (hM.below_at hB.size (fun k hk e => by have := ho k (hv k e); omega))⟩, hM.mono (fun k _ hk => hv k hk)⟩
  · rcases hk with hk | hk
    · have := hl k hk; omega
    · exact hk.2
  · rcases hk with hk | hk
    · exact ho k hk
    · have := hB.size; omega
theorem hd1_new (h : Hd1 w0 c hb V hd w) (S : Nat → Prop) (q : Proj) (x : Int) (fill : Bool) (a : Option Addr) (cc : Nat) (hs : Small q.chains) (hl : ListsAt S w a q.chains) :
    Calls Tryz.prog 71 #[.agg #[.int .i64 q.epoch, .slice a q.chains.length cc], .int .i64 x, .bool fill] w fun e w' => ∃ ab, e = .returned (.pointer (some ⟨ab, 0, none⟩)) ∧ Fe1 w0 c hb ab (grow V w w') hd (fe0 q x fill) w' ∧ Below w.heap.size w w' := by
  obtain ⟨⟨U, T, hH, hT, hv⟩, hl', ho, hB⟩ := h
  refine (fe1_new hH hT (fun k hk => ho k (hv k hk)) hB S q x fill a cc hs hl).mono ?_
  rintro e w' ⟨ab, rfl, ⟨⟨U', S', T', g1, g2, g3, g4, g5, g6⟩, g7, g8, g9, g10⟩, hB'⟩
  have hz := hB'.size
  have hz0 := hB.size
  refine ⟨ab, rfl, ⟨⟨U', S', T', g1, g2, g3, g4, g5, fun k hk => (g6 k hk).imp (hv k) id⟩, g7, fun k hk => ?_, fun k hk => ?_, g10⟩, hB'⟩
  · rcases hk with hk | hk
    · have := hl' k hk; omega
    · exact hk.2
  · rcases hk with hk | hk
    · exact ho k hk
    · omega
end
/-- a hand over new nodes -/
theorem Hd1.start {w0 W w : World} {hb : Nat} {hd : HdS} (h : HandAt w hb (grow none' W w) 16 hd) (hB0 : Below w0.heap.size w0 W) (hB : Below W.heap.size W w) : Hd1 w0 0 hb (grow none' W w) hd w :=
  ⟨⟨_, 16, h, by omega, fun _ hk => hk⟩, h.lt, fun k hk => by have := hB0.size; rcases hk with hk | hk; exact hk.elim; omega, hB0.trans (hB.mono hB0.size)⟩
/-- one round; where it is over nothing more is done -/
def feTurn (s : HdS × FeS) (f : Int) : HdS × FeS := if s.2.at = 6 then s else ((s.1.ask s.2.ask.1 f).2, s.2.hear (s.1.ask s.2.ask.1 f).1.1 (s.1.ask s.2.ask.1 f).1.2)
def fateF (fates : List Int) (i : Nat) : Int := if i < fates.length then fates.getD i 0 % 4 else 0
def stR (hd : HdS) (p : Proj) (x : Int) (fill : Bool) (fates : List Int) : Nat → HdS × FeS
  | 0 => (hd, fe0 p x fill)
  | i + 1 => feTurn (stR hd p x fill fates i) (fateF fates i)
theorem stR_stop {hd : HdS} {p : Proj} {x : Int} {fill : Bool} {fates : List Int} {i : Nat} (h : (stR hd p x fill fates i).2.at = 6) : ∀ j, stR hd p x fill fates (i + j) = stR hd p x fill fates i
  | 0 => rfl
  | j + 1 => by
    show feTurn (stR hd p x fill fates (i + j)) _ = _
    rw [stR_stop h j]
    unfold feTurn
    rw [if_pos h]
def RdRel (w0 : World) (c hb ab : Nat) (V : Nat → Prop) (w : World) (hd : HdS) (p : Proj) (x : Int) (fill : Bool) (fates : List Int) (g : Nat) (s15 : Value) (wr : World) : Prop :=
  ∃ (i : Nat) (V' : Nat → Prop), g = fates.length + 30 - i ∧ i ≤ fates.length + 30 ∧ s15 = .int .i64 i ∧ Fe1 w0 (c + i) hb ab V' (stR hd p x fill fates i).1 (stR hd p x fill fates i).2 wr ∧ (∀ k, V' k → V k ∨ w.heap.size ≤ k) ∧ Mod V w wr ∧ (stR hd p x fill fates i).2.s.size ≤ 4096
def Rd16Post (w0 : World) (c hb : Nat) (V : Nat → Prop) (w : World) (r : HdS × FeS) (e : Ending) (w' : World) : Prop := e = .returned (FOverV r.2) ∧ Hd1 w0 c hb (grow V w w') r.1 w' ∧ Mod V w w'
theorem cell_both' {W w : World} {n b o : Nat} {v : Value} (hB : Below n W w) (hc : W.cell? ⟨b, o, none⟩ = some v) (hb : b < n) : w.cell? ⟨b, o, none⟩ = some v ∧ b < w.heap.size := ⟨below_at hB hc hb, cell_lt (below_at hB hc hb)⟩
set_option maxRecDepth 100000 in
set_option maxHeartbeats 4000000 in
theorem read16_any {w0 w : World} {c hb : Nat} {V : Nat → Prop} {hd : HdS} (h : Hd1 w0 c hb V hd w) (hc : c ≤ 100000) (S : Nat → Prop) (p : Proj) (x : Int) (fill : Bool) (a : Option Addr) (cc : Nat) (hs : Small p.chains) (hl : ListsAt S w a p.chains) (fa : Option Addr) (fates : List Int) (fc : Nat) (hfa : BytesAt w fa fates) (hfl : fates.length ≤ 100)
    (hfV : ∀ b off, fa = some ⟨b, off, none⟩ → 0 < fates.length → ¬ V b) :
    Calls Tryz.prog 37 #[.pointer (some ⟨hb, 0, none⟩), .agg #[.int .i64 p.epoch, .slice a p.chains.length cc], .int .i64 x, .bool fill, .slice fa fates.length fc] w (Rd16Post w0 (c + fates.length + 30) hb V w (stR hd p x fill fates (fates.length + 30))) := by
  obtain ⟨W0, hW0, hB0, hz0, p0, p1⟩ := oneBox w 24 (.int .i64 p.epoch) (.slice a p.chains.length cc)
  have hnw := hd1_new (h.below' hB0) S p x fill a cc hs (hl.mod (F := none') (Mod.of_below hB0) (fun _ _ _ => id))
  have HW0 := Lib.hid hW0
  have Hlt0 := Lib.hid h.lt
  have Hold := Lib.hid h.old
  have Hb0 := Lib.hid h.below
  have HFA := Lib.hid hfa
  have HFV := Lib.hid hfV
  have Hfl := Lib.hid hfl
  have hflI : (fates.length : Int) ≤ 100 := by omega
  have HB0 := Lib.hid hB0
  clear hW0 h hl hs hfa hfV hfl hB0
  go_enter Tryz.func37, Tryz.ntmps37
  go_wp2_with fail
  rw [← HW0.out]
  refine hnw.mono ?_
  clear hnw
  rintro e w1 ⟨ab, rfl, hA, hB1⟩
  have HA := Lib.hid hA
  have HMW1 := Lib.hid (Mod.of_below (F := V) (HB0.out.trans (hB1.mono HB0.out.size)))
  clear hA hB1 p0 p1 hz0
  go_wp2_with fail
  go_loopg [15] (fates.length + 30) (fun g s15 wr => RdRel w0 c hb ab V w hd p x fill fates g s15 wr)
  case atStart =>
    exact ⟨0, _, rfl, by omega, rfl, HA.out, fun k hk => by
      rcases hk with hk | hk
      · exact Or.inl hk
      · exact Or.inr (by have := HB0.out.size; omega), HMW1.out, by
      show (fe0 p x fill).s.size ≤ 4096
      unfold fe0
      by_cases e : (ofP p x).2.2 = true
      · rw [if_pos e]; exact (by decide : (ByteArray.mk #[]).size ≤ 4096)
      · rw [if_neg e]; exact (by decide : (ByteArray.mk #[]).size ≤ 4096)⟩
  case round =>
    clear HA HMW1
    obtain ⟨i, V', rfl, hi, rfl, hA, hV, hMV, hsz⟩ := hrel
    have HV := Lib.hid hV
    have HMV := Lib.hid hMV
    have Hs := Lib.hid hsz
    clear hV hMV hsz
    have i1 : (0 : Int) ≤ i := by omega
    have i2 : (i : Int) ≤ fates.length + 30 := by omega
    by_cases hi3 : i < fates.length + 30
    · have i0 : (i : Int) < fates.length + 30 := by omega
      by_cases h5 : (stR hd p x fill fates i).2.at = 6
      · have hst : stR hd p x fill fates (fates.length + 30) = stR hd p x fill fates i := by
          have := stR_stop h5 (fates.length + 30 - i)
          rwa [show i + (fates.length + 30 - i) = fates.length + 30 by omega] at this
        have Hst := Lib.hid (show (stR hd p x fill fates (fates.length + 30)).2 = (stR hd p x fill fates i).2 by rw [hst])
        have Hst1 := Lib.hid (show (stR hd p x fill fates (fates.length + 30)).1 = (stR hd p x fill fates i).1 by rw [hst])
        obtain ⟨qk, qu, qe, qp, qs, qn, qd, hr, hds⟩ := (stR hd p x fill fates i).2.ask_form (show (stR hd p x fill fates i).2.ask.2 = false by rw [FeS.ask_2]; simp [h5])
        have HA := Lib.hid hA
        clear h5 hst
        go_wp2_with fail
        refine (fe1_ask hA).mono ?_
        rw [hr]
        rintro e W1 ⟨rfl, hB1⟩
        have hA1 := HA.out.below' hB1
        have HB1 := Lib.hid hB1
        clear hA HA hB1
        simp only [qV, Esch.p0, List.length_nil]
        go_wp2_with fail
        obtain ⟨W2, hW2, hB2, hz2, -⟩ := ask_box W1 (.int .i64 qk) (.int .i64 qu) (.int .i64 qe) (.int .i64 qp) (.int .i64 qs) (.int .i64 qn) (.string qd) (.int .i64 0) (.slice none 0 0)
        rw [← hW2]
        have hA := hA1.below' hB2
        have HMV2 := Lib.hid ((HMV.out.trans (Mod.of_below HB1.out)).trans (Mod.of_below hB2))
        clear hW2 hz2 hB2 hA1 hr hds i0 i2 HMV HB1
        have HMV := HMV2
        have hov := fe1_over hA
        rw [← Hst.out] at hov
        have HA := Lib.hid hA
        clear hA
        obtain ⟨rk, rs, re, rb, hrr⟩ : ∃ rk rs re rb, FOverV (stR hd p x fill fates (fates.length + 30)).2 = .tuple #[.int .i64 rk, .string rs, .int .i64 re, .bool rb] := by
          unfold FOverV
          by_cases e : (stR hd p x fill fates (fates.length + 30)).2.at = 6
          · rw [if_pos e]; exact ⟨_, _, _, _, rfl⟩
          · rw [if_neg e]; exact ⟨_, _, _, _, rfl⟩
        rw [hrr] at hov
        have Hrr := Lib.hid hrr
        clear hrr
        go_wp2_with fail
        refine hov.mono ?_
        clear hov
        rintro e w6 ⟨rfl, hM6⟩
        have hF := (HA.out.mod hM6 (fun _ _ => id) (fun _ _ => id)).toHd
        have HF := Lib.hid hF
        have HM6 := Lib.hid hM6
        clear hF hM6
        go_wp2_with fail
        refine bodyPost_ret (v := .tuple #[.int .i64 rk, .string rs, .int .i64 re, .bool rb]) (by simp only [results, Tryz.results37]; go_simp) rfl ?_
        unfold Rd16Post
        rw [Hrr.out]
        obtain ⟨⟨U, T, g1, g2, g3⟩, g4, g5, g6⟩ := HF.out
        have hMe : Mod V w w6 := HMV.out.trans (mod_none HM6.out)
        refine ⟨rfl, ⟨⟨U, T, ?_, by omega, fun k hk => ?_⟩, fun k hk => ?_, fun k hk => ?_, g6⟩, hMe⟩
        · rw [Hst1.out]; exact g1
        · rcases HV.out k (g3 k hk) with e | e
          · exact Or.inl e
          · exact Or.inr ⟨e, g4 k (g3 k hk)⟩
        · rcases hk with hk | hk
          · exact Nat.lt_of_lt_of_le (Hlt0.out k hk) hMe.size
          · exact hk.2
        · rcases hk with hk | hk
          · exact Hold.out k hk
          · have := Hb0.out.size; omega
      · obtain ⟨qk, qu, qe, qp, qs, qn, qd, hr, hds'⟩ := (stR hd p x fill fates i).2.ask_form (show (stR hd p x fill fates i).2.ask.2 = true by rw [FeS.ask_2]; simp [h5])
        have hds := hds' (by have := Hs.out; omega)
        have Hr := Lib.hid hr
        have H5 := Lib.hid h5
        have hlt6 := Hfl.out
        clear h5 hds'
        by_cases hff : i < fates.length
        · obtain ⟨fb, foff, rfl, hfb, hfc⟩ := HFA.out (by omega)
          obtain ⟨hfv, hf0, hf1⟩ := hfc i hff
          have hfvr := HMV.out.at hfv (HFV.out fb foff rfl (by omega))
          have hff' : decide (i < fates.length) = true := by simpa using hff
          obtain ⟨fv, hfv'⟩ : ∃ fv, fv = fates.getD i 0 := ⟨_, rfl⟩
          have hfq : fateF fates i = fv % 4 := by unfold fateF; rw [if_pos hff, hfv']
          rw [← hfv'] at hfvr hf0 hf1
          have Hfv := Lib.hid hfv'
          have Hfq := Lib.hid hfq
          have n0 : (i : Int) < fates.length := by omega
          have hfbr := cell_lt hfvr
          clear hfv hfc hfv' hfq hff
          go_wp2_with fail
          refine (fe1_ask hA).mono ?_
          rw [hr]
          rintro e W1 ⟨rfl, hB1⟩
          have hA1 := hA.below' hB1
          have HB1 := Lib.hid hB1
          clear hA hB1
          obtain ⟨hfv1, hfl1⟩ := cell_both' HB1.out hfvr hfbr
          simp only [qV, Esch.p0, List.length_nil]
          go_wp2_with fail
          obtain ⟨W2, hW2, hB2, hz2, b0, b1, b2, b3, b4, b5, b6, b7, b8⟩ := ask_box W1 (.int .i64 qk) (.int .i64 qu) (.int .i64 qe) (.int .i64 qp) (.int .i64 qs) (.int .i64 qn) (.string qd) (.int .i64 0) (.slice none 0 0)
          rw [← hW2]
          have hA2 := hA1.below' hB2
          have HB12 := Lib.hid (HB1.out.trans (hB2.mono HB1.out.size))
          clear hW2 hz2 hB2 hA1
          have hc := fe1_hand hA2 (by omega) ⟨qk, qu, qe, qp, qs, qn, qd, Esch.p0⟩ rfl hds (fv % 4)
          have hxd := hA2.data ⟨qk, qu, qe, qp, qs, qn, qd, Esch.p0⟩ (fv % 4)
          obtain ⟨⟨⟨x, xb⟩, hd'⟩, hxr⟩ : ∃ r, r = (stR hd p x fill fates i).1.ask ⟨qk, qu, qe, qp, qs, qn, qd, Esch.p0⟩ (fv % 4) := ⟨_, rfl⟩
          rw [← hxr] at hc hxd
          simp only [qV, Esch.p0, List.length_nil] at hc
          have Hxr := Lib.hid hxr
          have Hxd := Lib.hid hxd
          have hab := hA2.ablt
          clear hA2 hxr hxd
          go_wp2_with fail
          refine hc.mono ?_
          clear hc b0 b1 b2 b3 b4 b5 b6 b7 b8
          rintro e W3 ⟨xa, xcc, rfl, hl3, hA3, hM3⟩
          have hh := fe1_hear hA3 x xa xcc xb _ hl3 (fun k hk e => by have hk : W2.heap.size ≤ k := hk; omega)
          obtain ⟨xc, xn, xd, ⟨xpe, xls⟩, xm, xs, xe⟩ := x
          simp only [aV] at hh ⊢
          clear hl3 hA3 hab
          go_wp2_with fail
          refine hh.mono ?_
          clear hh
          rintro e W4 ⟨rfl, hA4, hM4⟩
          have HA4 := Lib.hid hA4
          have HM3 := Lib.hid hM3
          have HM4 := Lib.hid hM4
          clear hA4 hM3 hM4
          go_wp2_with fail
          go_roundg (fates.length + 30 - (i + 1))
          case measure => omega
          case rel =>
            have e : stR hd p x fill fates (i + 1) = (hd', (stR hd p x fill fates i).2.hear ⟨xc, xn, xd, ⟨xpe, xls⟩, xm, xs, xe⟩ xb) := by
              show feTurn (stR hd p x fill fates i) (fateF fates i) = _
              rw [show fateF fates i = fv % 4 from Hfq.out]
              unfold feTurn
              rw [if_neg H5.out, Hr.out, ← Hxr.out]
            have hs' : (stR hd p x fill fates (i + 1)).2.s.size ≤ 4096 := by rw [e]; exact FeS.hear_s _ _ _ Hs.out Hxd.out
            have hz1 := HMV.out.size
            have hz2 := HB12.out.size
            have hz3 := HM3.out.size
            have hV1 : ∀ k, k < w.heap.size → V' k → V k := fun k hk h => (HV.out k h).resolve_right (by omega)
            have hM14 : Mod V w W4 := ((HMV.out.trans (Mod.of_below HB12.out)).trans' HM3.out hV1).trans' HM4.out (fun k hk h => h.elim (hV1 k hk) (fun h => by omega))
            exact ⟨i + 1, _, rfl, by omega, by go_num, (HA4.out.cast e).more (by omega), fun k hk => by
              rcases hk with (hk | hk) | hk
              · exact HV.out k hk
              · exact Or.inr (by omega)
              · exact Or.inr (by omega), hM14, hs'⟩
        · have hff2 : fates.length ≤ i := by omega
          have hff' : decide (i < fates.length) = false := by simpa using hff2
          have hfq : fateF fates i = 0 := if_neg hff
          have Hfq := Lib.hid hfq
          clear hfq hff hff2
          go_wp2_with fail
          refine (fe1_ask hA).mono ?_
          rw [hr]
          rintro e W1 ⟨rfl, hB1⟩
          have hA1 := hA.below' hB1
          have HB1 := Lib.hid hB1
          clear hA hB1
          skip
          simp only [qV, Esch.p0, List.length_nil]
          go_wp2_with fail
          obtain ⟨W2, hW2, hB2, hz2, b0, b1, b2, b3, b4, b5, b6, b7, b8⟩ := ask_box W1 (.int .i64 qk) (.int .i64 qu) (.int .i64 qe) (.int .i64 qp) (.int .i64 qs) (.int .i64 qn) (.string qd) (.int .i64 0) (.slice none 0 0)
          rw [← hW2]
          have hA2 := hA1.below' hB2
          have HB12 := Lib.hid (HB1.out.trans (hB2.mono HB1.out.size))
          clear hW2 hz2 hB2 hA1
          have hc := fe1_hand hA2 (by omega) ⟨qk, qu, qe, qp, qs, qn, qd, Esch.p0⟩ rfl hds 0
          have hxd := hA2.data ⟨qk, qu, qe, qp, qs, qn, qd, Esch.p0⟩ 0
          obtain ⟨⟨⟨x, xb⟩, hd'⟩, hxr⟩ : ∃ r, r = (stR hd p x fill fates i).1.ask ⟨qk, qu, qe, qp, qs, qn, qd, Esch.p0⟩ 0 := ⟨_, rfl⟩
          rw [← hxr] at hc hxd
          simp only [qV, Esch.p0, List.length_nil] at hc
          have Hxr := Lib.hid hxr
          have Hxd := Lib.hid hxd
          have hab := hA2.ablt
          clear hA2 hxr hxd
          go_wp2_with fail
          refine hc.mono ?_
          clear hc b0 b1 b2 b3 b4 b5 b6 b7 b8
          rintro e W3 ⟨xa, xcc, rfl, hl3, hA3, hM3⟩
          have hh := fe1_hear hA3 x xa xcc xb _ hl3 (fun k hk e => by have hk : W2.heap.size ≤ k := hk; omega)
          obtain ⟨xc, xn, xd, ⟨xpe, xls⟩, xm, xs, xe⟩ := x
          simp only [aV] at hh ⊢
          clear hl3 hA3 hab
          go_wp2_with fail
          refine hh.mono ?_
          clear hh
          rintro e W4 ⟨rfl, hA4, hM4⟩
          have HA4 := Lib.hid hA4
          have HM3 := Lib.hid hM3
          have HM4 := Lib.hid hM4
          clear hA4 hM3 hM4
          go_wp2_with fail
          go_roundg (fates.length + 30 - (i + 1))
          case measure => omega
          case rel =>
            have e : stR hd p x fill fates (i + 1) = (hd', (stR hd p x fill fates i).2.hear ⟨xc, xn, xd, ⟨xpe, xls⟩, xm, xs, xe⟩ xb) := by
              show feTurn (stR hd p x fill fates i) (fateF fates i) = _
              rw [show fateF fates i = 0 from Hfq.out]
              unfold feTurn
              rw [if_neg H5.out, Hr.out, ← Hxr.out]
            have hs' : (stR hd p x fill fates (i + 1)).2.s.size ≤ 4096 := by rw [e]; exact FeS.hear_s _ _ _ Hs.out Hxd.out
            have hz1 := HMV.out.size
            have hz2 := HB12.out.size
            have hz3 := HM3.out.size
            have hV1 : ∀ k, k < w.heap.size → V' k → V k := fun k hk h => (HV.out k h).resolve_right (by omega)
            have hM14 : Mod V w W4 := ((HMV.out.trans (Mod.of_below HB12.out)).trans' HM3.out hV1).trans' HM4.out (fun k hk h => h.elim (hV1 k hk) (fun h => by omega))
            exact ⟨i + 1, _, rfl, by omega, by go_num, (HA4.out.cast e).more (by omega), fun k hk => by
              rcases hk with (hk | hk) | hk
              · exact HV.out k hk
              · exact Or.inr (by omega)
              · exact Or.inr (by omega), hM14, hs'⟩
    · have hie : i = fates.length + 30 := by omega
      have hie' : (fates.length : Int) + 30 ≤ i := by omega
      have Hst := Lib.hid (show (stR hd p x fill fates (fates.length + 30)).2 = (stR hd p x fill fates i).2 by rw [hie])
      have Hst1 := Lib.hid (show (stR hd p x fill fates (fates.length + 30)).1 = (stR hd p x fill fates i).1 by rw [hie])
      clear hi3 hie i2
      have hov := fe1_over hA
      rw [← Hst.out] at hov
      have HA := Lib.hid hA
      clear hA
      obtain ⟨rk, rs, re, rb, hrr⟩ : ∃ rk rs re rb, FOverV (stR hd p x fill fates (fates.length + 30)).2 = .tuple #[.int .i64 rk, .string rs, .int .i64 re, .bool rb] := by
        unfold FOverV
        by_cases e : (stR hd p x fill fates (fates.length + 30)).2.at = 6
        · rw [if_pos e]; exact ⟨_, _, _, _, rfl⟩
        · rw [if_neg e]; exact ⟨_, _, _, _, rfl⟩
      rw [hrr] at hov
      have Hrr := Lib.hid hrr
      clear hrr
      go_wp2_with fail
      refine hov.mono ?_
      clear hov
      rintro e w6 ⟨rfl, hM6⟩
      have hF := (HA.out.mod hM6 (fun _ _ => id) (fun _ _ => id)).toHd
      have HF := Lib.hid hF
      have HM6 := Lib.hid hM6
      clear hF hM6
      go_wp2_with fail
      refine bodyPost_ret (v := .tuple #[.int .i64 rk, .string rs, .int .i64 re, .bool rb]) (by simp only [results, Tryz.results37]; go_simp) rfl ?_
      unfold Rd16Post
      rw [Hrr.out]
      obtain ⟨⟨U, T, g1, g2, g3⟩, g4, g5, g6⟩ := HF.out
      have hMe : Mod V w w6 := HMV.out.trans (mod_none HM6.out)
      refine ⟨rfl, ⟨⟨U, T, ?_, by omega, fun k hk => ?_⟩, fun k hk => ?_, fun k hk => ?_, g6⟩, hMe⟩
      · rw [Hst1.out]; exact g1
      · rcases HV.out k (g3 k hk) with e | e
        · exact Or.inl e
        · exact Or.inr ⟨e, g4 k (g3 k hk)⟩
      · rcases hk with hk | hk
        · exact Nat.lt_of_lt_of_le (Hlt0.out k hk) hMe.size
        · exact hk.2
      · rcases hk with hk | hk
        · exact Hold.out k hk
        · have := Hb0.out.size; omega
end Go.Proofs.YtghdhhbpbmhooaaGreat
/- what the laws of the fetch wake them by -/
namespace Go.Proofs.YtghdhhbpbmhooaaGreat
open Go.RowKit Esch

end Go.Proofs.YtghdhhbpbmhooaaGreat
