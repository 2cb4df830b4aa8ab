/- several appends over one hand -/
import Derived.Test.YtohmmjaikhpcfaaGreatPkHear
import Derived.Test.YtohmmjaikhpcfaaGreatApOrd
import Derived.Deep.OwnRows
namespace Go.Proofs.YtohmmjaikhpcfaaGreat
open Go.RowKit Esch

structure ApF (w0 : World) (c hb n : Nat) (abs : Nat → Nat) (V : Nat → Prop) (hd : HdS) (f : Nat → ApS) (w : World) : Prop where
  at' : ∃ (U : Nat → Prop) (S : Nat → Nat → Prop) (T : Nat), HandAt w hb U T hd ∧ T ≤ 16 * (c + 1) ∧ (∀ k, U k → V k) ∧
    (∀ i, i < n → ApAt w (abs i) (S i) (f i) ∧ ∀ k, S i k → k < w.heap.size ∧ V k ∧ ¬ U k) ∧ ∀ i j, i < n → j < n → i ≠ j → ∀ k, S i k → ¬ S j k
  ok : ∀ i, i < n → (f i).ok
  lt : ∀ k, V k → k < w.heap.size
  old : ∀ k, V k → w0.heap.size ≤ k
  below : Below w0.heap.size w0 w
section
variable {w0 w : World} {c hb n : Nat} {abs : Nat → Nat} {V : Nat → Prop} {hd : HdS} {f : Nat → ApS}
theorem ApF.mod {F : Nat → Prop} {w' : World} (h : ApF w0 c hb n abs V hd f w) (hM : Mod F w w') (hF : ∀ k, V k → ¬ F k) (hw : ∀ k, k < w0.heap.size → ¬ F k) : ApF w0 c hb n abs V hd f w' := by
  obtain ⟨⟨U, S, T, hH, hT, hu, hA, hd'⟩, hk, hl, ho, hB⟩ := h
  have hz := hM.size
  exact ⟨⟨U, S, T, hH.mod hM (fun k hk => hF k (hu k hk)), hT, hu, fun i hi => ⟨(hA i hi).1.mod hM (fun k hk _ => hF k ((hA i hi).2 k hk).2.1), fun k hk => ⟨Nat.lt_of_lt_of_le ((hA i hi).2 k hk).1 hz, ((hA i hi).2 k hk).2⟩⟩, hd'⟩, hk, fun k hk => Nat.lt_of_lt_of_le (hl k hk) hz, ho, hB.trans (hM.below_at hB.size hw)⟩
theorem ApF.below' {w' : World} (h : ApF w0 c hb n abs V hd f w) (hB : Below w.heap.size w w') : ApF w0 c hb n abs V hd f w' := h.mod (F := none') (Mod.of_below hB) (fun _ _ => id) (fun _ _ => id)
theorem ApF.more {c' : Nat} (h : ApF w0 c hb n abs V hd f w) (hc : c ≤ c') : ApF w0 c' hb n abs V hd f w := by
  obtain ⟨⟨U, S, T, hH, hT, h1⟩, h2, h3, h4, h5⟩ := h
  exact ⟨⟨U, S, T, hH, by omega, h1⟩, h2, h3, h4, h5⟩
theorem ApF.sub {V' : Nat → Prop} (h : ApF w0 c hb n abs V hd f w) (hV : ∀ k, V k → V' k) (hl : ∀ k, V' k → k < w.heap.size) (ho : ∀ k, V' k → w0.heap.size ≤ k) : ApF w0 c hb n abs V' hd f w := by
  obtain ⟨⟨U, S, T, hH, hT, hu, hA, hd'⟩, hk, -, -, hB⟩ := h
  exact ⟨⟨U, S, T, hH, hT, fun k hk => hV k (hu k hk), fun i hi => ⟨(hA i hi).1, fun k hk => ⟨((hA i hi).2 k hk).1, hV k ((hA i hi).2 k hk).2.1, ((hA i hi).2 k hk).2.2⟩⟩, hd'⟩, hk, hl, ho, hB⟩
theorem ApF.at0 {j : Nat} (h : ApF w0 c hb n abs V hd f w) (hj : j < n) : abs j < w.heap.size := by
  obtain ⟨⟨U, S, T, hH, hT, hu, hA, hd'⟩, hk, -, -, hB⟩ := h
  exact (hA j hj).1.lt
/-- one of them, and how it is put back -/
theorem ApF.one {j : Nat} (h : ApF w0 c hb n abs V hd f w) (hj : j < n) : ∃ V' : Nat → Prop, (∀ k, V' k → V k) ∧ Ap1 w0 c hb (abs j) V' hd (f j) w ∧
    ∀ (c' : Nat) (V'' : Nat → Prop) (hd' : HdS) (ap' : ApS) (w' : World), Ap1 w0 c' hb (abs j) V'' hd' ap' w' → (∀ k, V'' k → V' k ∨ w.heap.size ≤ k) → Mod V' w w' → ApF w0 c' hb n abs (grow V w w') hd' (upA f j ap') w' := by
  obtain ⟨⟨U, S, T, hH, hT, hu, hA, hd'⟩, hk, hl, ho, hB⟩ := h
  refine ⟨fun k => U k ∨ S j k, fun k hk => hk.elim (hu k) (fun h => ((hA j hj).2 k h).2.1), ⟨⟨U, S j, T, hH, hT, (hA j hj).1, fun k hk => ((hA j hj).2 k hk).1, fun k hk h => ((hA j hj).2 k h).2.2 hk, fun k hk => hk⟩, hk j hj, fun k hk => hl k (hk.elim (hu k) (fun h => ((hA j hj).2 k h).2.1)), fun k hk => ho k (hk.elim (hu k) (fun h => ((hA j hj).2 k h).2.1)), hB⟩, ?_⟩
  intro c' V'' hd2 ap' w' h1 hV hM
  have hz := hM.size
  obtain ⟨⟨U', S', T', gH, gT, gA, gs, gu, gv⟩, gk, gl, go', gB⟩ := h1
  have hnew : ∀ k, V'' k → grow V w w' k := fun k hk => (hV k hk).elim (fun h => Or.inl (h.elim (hu k) (fun h => ((hA j hj).2 k h).2.1))) (fun h => Or.inr ⟨h, gl k hk⟩)
  have hout : ∀ i, i < n → i ≠ j → ∀ k, S i k → ¬ V'' k := fun i hi hij k hk h => by
    have h3 := (hA i hi).2 k hk
    rcases hV k h with (h2 | h2) | h2
    · exact h3.2.2 h2
    · exact hd' i j hi hj hij k hk h2
    · omega
  refine ⟨⟨U', fun i => if i = j then S' else S i, T', gH, gT, fun k hk => hnew k (gv k (Or.inl hk)), fun i hi => ?_, fun i l hi hl' hil k hk hk' => ?_⟩, fun i hi => ?_, fun k hk => ?_, fun k hk => ?_, gB⟩
  · by_cases e : i = j
    · subst e
      rw [upA_at]
      simp only [if_pos]
      exact ⟨gA, fun k hk => ⟨gs k hk, hnew k (gv k (Or.inr hk)), fun h => gu k h hk⟩⟩
    · rw [upA_ne f _ e]
      simp only [if_neg e]
      have h3 := (hA i hi).2
      exact ⟨(hA i hi).1.mod hM (fun k hk _ h => h.elim (h3 k hk).2.2 (hd' i j hi hj e k hk)), fun k hk => ⟨Nat.lt_of_lt_of_le (h3 k hk).1 hz, Or.inl (h3 k hk).2.1, fun h => hout i hi e k hk (gv k (Or.inl h))⟩⟩
  · simp only at hk hk'
    by_cases e : i = j
    · subst e
      rw [if_pos rfl] at hk
      rw [if_neg (fun e => hil e.symm)] at hk'
      exact hout l hl' (fun e => hil e.symm) k hk' (gv k (Or.inr hk))
    · rw [if_neg e] at hk
      by_cases e' : l = j
      · subst e'
        rw [if_pos rfl] at hk'
        exact hout i hi e k hk (gv k (Or.inr hk'))
      · rw [if_neg e'] at hk'
        exact hd' i l hi hl' hil k hk hk'
  · by_cases e : i = j
    · subst e; rw [upA_at]; exact gk
    · rw [upA_ne f _ e]; exact hk i hi
  · rcases hk with hk | hk
    · have := hl k hk; omega
    · exact hk.2
  · rcases hk with hk | hk
    · exact ho k hk
    · have := hB.size; omega
/-- one more -/
theorem ApF.add {w' : World} {ab : Nat} {s : ApS} (h : ApF w0 c hb n abs V hd f w) (hB : Below w.heap.size w w') (hA : ApAt w' ab (From w.heap.size) s) (hs : s.ok) : ApF w0 c hb (n + 1) (fun i => if i = n then ab else abs i) (grow V w w') hd (upA f n s) w' := by
  obtain ⟨⟨U, S, T, hH, hT, hu, hA0, hd'⟩, hk, hl, ho, hB0⟩ := h
  have hz := hB.size
  refine ⟨⟨U, fun i => if i = n then (fun k => w.heap.size ≤ k ∧ k < w'.heap.size) else S i, T, hH.below hB, hT, fun k hk => Or.inl (hu k hk), fun i hi => ?_, fun i l hi hl' hil k hk hk' => ?_⟩, fun i hi => ?_, fun k hk => ?_, fun k hk => ?_, hB0.trans (hB.mono hB0.size)⟩
  · by_cases e : i = n
    · subst e
      rw [upA_at]
      simp only [if_pos]
      exact ⟨hA.sub (fun k hk h => ⟨h, hk⟩), fun k hk => ⟨hk.2, Or.inr hk, fun h => by have := hl k (hu k h); omega⟩⟩
    · rw [upA_ne f _ e]
      simp only [if_neg e]
      have h3 := (hA0 i (by omega)).2
      exact ⟨(hA0 i (by omega)).1.below hB, fun k hk => ⟨Nat.lt_of_lt_of_le (h3 k hk).1 hz, Or.inl (h3 k hk).2.1, (h3 k hk).2.2⟩⟩
  · simp only at hk hk'
    by_cases e : i = n
    · subst e
      rw [if_pos rfl] at hk
      rw [if_neg (fun e => hil e.symm)] at hk'
      have := ((hA0 l (by omega)).2 k hk').1
      omega
    · rw [if_neg e] at hk
      have := ((hA0 i (by omega)).2 k hk).1
      by_cases e' : l = n
      · subst e'
        rw [if_pos rfl] at hk'
        omega
      · rw [if_neg e'] at hk'
        exact hd' i l (by omega) (by omega) hil k hk hk'
  · by_cases e : i = n
    · subst e; rw [upA_at]; exact hs
    · rw [upA_ne f _ e]; exact hk i (by omega)
  · rcases hk with hk | hk
    · have := hl k hk; omega
    · exact hk.2
  · rcases hk with hk | hk
    · exact ho k hk
    · have := hB0.size; omega
theorem ApF.over {j : Nat} (h : ApF w0 c hb n abs V hd f w) (hj : j < n) : Calls Tryz.prog 16 #[.pointer (some ⟨abs j, 0, none⟩)] w fun e w' => e = .returned (OverV (f j)) ∧ Mod none' w w' := by
  obtain ⟨V', -, hA, -⟩ := h.one hj
  exact ap1_over hA
theorem ApF.nodes (h : ApF w0 c hb n abs V hd f w) : ∃ nb, (∀ W, Mod none' w W → Calls Tryz.prog 19 #[.pointer (some ⟨hb, 0, none⟩)] W fun e w' => e = .returned (.pointer (some ⟨nb, 0, none⟩)) ∧ w' = W) ∧ ∀ i, i < 16 → NdR w nb i (hd.nd.units i).pg := by
  obtain ⟨⟨U, S, T, hH, -⟩, -⟩ := h
  exact hH.nodes
end
theorem ApS.ask_is (s : ApS) : s.ask.2 = decide (s.at ≠ 5) := by
  unfold ApS.ask
  by_cases h : s.at = 5
  · rw [if_pos h]; simp [h]
  · rw [if_neg h]
    have : decide (s.at ≠ 5) = true := by simpa using h
    rw [this]
    repeat' split
    all_goals rfl
/-- one question more -/
def tnO (s : HdS × ApS) : HdS × ApS := if s.2.at = 5 then s else apTurn s 0
def TurnPost (w0 : World) (c hb n : Nat) (abs : Nat → Nat) (V : Nat → Prop) (hd : HdS) (f : Nat → ApS) (j : Nat) (w : World) (e : Ending) (w' : World) : Prop :=
  e = .returned (.bool (decide ((f j).at ≠ 5))) ∧ ApF w0 (c + 1) hb n abs (grow V w w') (tnO (hd, f j)).1 (upA f j (tnO (hd, f j)).2) w' ∧ Mod V w w'
set_option maxRecDepth 100000 in
set_option maxHeartbeats 2000000 in
theorem turn15_any {w0 w : World} {c hb n : Nat} {abs : Nat → Nat} {V : Nat → Prop} {hd : HdS} {f : Nat → ApS} {j : Nat} (h : ApF w0 c hb n abs V hd f w) (hj : j < n) (hc : c < 1000000) (hts : (f j).txt.size ≤ 9223372036854775807) :
    Calls Tryz.prog 15 #[.pointer (some ⟨hb, 0, none⟩), .pointer (some ⟨abs j, 0, none⟩)] w (TurnPost w0 c hb n abs V hd f j w) := by
  obtain ⟨V', hVV, hA, hback⟩ := h.one hj
  have hvl := hA.lt
  have hask := ap1_ask hA
  have hq1 := (f j).ask_p
  have hq2 := ApS.ask_data hts
  have hq3 := (f j).ask_is
  obtain ⟨⟨⟨qk, qu, qe, qp, qs, qn, qd, qpr⟩, qb⟩, hq⟩ : ∃ r, r = (f j).ask := ⟨_, rfl⟩
  have Hq := Lib.hid hq
  have HFA := Lib.hid h
  rw [← hq] at hask hq1 hq2 hq3
  simp only at hq1 hq2 hq3
  subst hq1
  have Hq3 := Lib.hid hq3
  clear hq hq3 h
  obtain ⟨ab, hab⟩ : ∃ ab, ab = abs j := ⟨_, rfl⟩
  have Hab := Lib.hid hab
  rw [← hab] at hA hask hback ⊢
  have Hback := Lib.hid hback
  clear hab hback
  go_enter Tryz.func15, Tryz.ntmps15
  go_wp2_with fail
  refine hask.mono ?_
  clear hask
  rintro e W1 ⟨rfl, hB1⟩
  have hA1 := hA.below' hB1
  have HB1 := Lib.hid hB1
  clear hA hB1
  simp only [qV, Esch.p0, List.length_nil]
  cases qb with
  | false =>
    go_wp2_with fail
    obtain ⟨W2, hW2, hB2, hz2, b0, b1, b2, b3, b4, b5, b6, b7, b8⟩ := ask_box W1 (.int .i64 qk) (.int .i64 qu) (.int .i64 qe) (.int .i64 qp) (.int .i64 qs) (.int .i64 qn) (.string qd) (.int .i64 0) (.slice none 0 0)
    rw [← hW2]
    have HB2 := Lib.hid (HB1.out.trans (hB2.mono HB1.out.size))
    clear hW2 hz2 hB2 hA1 b0 b1 b2 b3 b4 b5 b6 b7 b8
    go_wp2_with fail
    go_ret
    have h5 : (f j).at = 5 := by
      have := Hq3.out
      simpa using this.symm
    have hz := HB2.out.size
    have hF := HFA.out.below' HB2.out
    refine ⟨by rw [h5]; rfl, ?_, Mod.of_below HB2.out⟩
    unfold tnO
    rw [if_pos h5, upA_same rfl]
    refine (hF.more (by omega)).sub (fun k hk => Or.inl hk) (fun k hk => ?_) (fun k hk => ?_)
    · rcases hk with hk | hk
      · exact hF.lt k hk
      · exact hk.2
    · rcases hk with hk | hk
      · exact hF.old k hk
      · have := HFA.out.below.size; omega
  | true =>
    go_wp2_with fail
    obtain ⟨W2, hW2, hB2, hz2, b0, b1, b2, b3, b4, b5, b6, b7, b8⟩ := ask_box W1 (.int .i64 qk) (.int .i64 qu) (.int .i64 qe) (.int .i64 qp) (.int .i64 qs) (.int .i64 qn) (.string qd) (.int .i64 0) (.slice none 0 0)
    rw [← hW2]
    have hA2 := hA1.below' hB2
    have HB2 := Lib.hid (HB1.out.trans (hB2.mono HB1.out.size))
    clear hW2 hz2 hB2 hA1
    have hcl := ap1_hand hA2 hc ⟨qk, qu, qe, qp, qs, qn, qd, Esch.p0⟩ rfl hq2 0
    obtain ⟨⟨⟨x, xb⟩, hd'⟩, hxr⟩ : ∃ r, r = hd.ask ⟨qk, qu, qe, qp, qs, qn, qd, Esch.p0⟩ 0 := ⟨_, rfl⟩
    rw [← hxr] at hcl
    simp only [qV, Esch.p0, List.length_nil] at hcl
    have Hxr := Lib.hid hxr
    have habl := hA2.ablt
    clear hA2 hxr
    go_wp2_with fail
    refine hcl.mono ?_
    clear hcl b0 b1 b2 b3 b4 b5 b6 b7 b8
    rintro e W3 ⟨xa, xcc, rfl, hl3, hA3, hM3⟩
    have hh := ap1_hear hA3 x xa xcc xb _ hl3 (fun k hk e => by have hk : W2.heap.size ≤ k := hk; omega)
    obtain ⟨xc, xn, xd, ⟨xpe, xls⟩, xm, xs, xe⟩ := x
    simp only [aV] at hh ⊢
    have HM3 := Lib.hid hM3
    clear hl3 hA3 habl hM3
    go_wp2_with fail
    refine hh.mono ?_
    clear hh
    rintro e W4 ⟨rfl, hA4, hM4⟩
    have HA4 := Lib.hid hA4
    have HM4 := Lib.hid hM4
    clear hA4 hM4
    go_wp2_with fail
    go_ret
    have h5 : (f j).at ≠ 5 := by
      have := Hq3.out
      simpa using this.symm
    have z1 := HB2.out.size
    have z2 := HM3.out.size
    have z3 := HM4.out.size
    have M1 : Mod V' w W3 := (Mod.of_below HB2.out).trans HM3.out
    have M2 : Mod V' w W4 := M1.trans' HM4.out (fun k hk hg => by
      rcases hg with hg | hg
      · exact hg
      · omega)
    have hT : tnO (hd, f j) = (hd', (f j).hear ⟨xc, xn, xd, ⟨xpe, xls⟩, xm, xs, xe⟩ xb) := by
      unfold tnO apTurn
      rw [if_neg h5]
      show ((hd.ask (f j).ask.1 0).2, (f j).hear (hd.ask (f j).ask.1 0).1.1 (hd.ask (f j).ask.1 0).1.2) = _
      rw [← Hq.out]
      simp only
      rw [← Hxr.out]
    have hB := Hback.out (c + 1) _ _ _ _ HA4.out (fun k hk => by
      rcases hk with (hk | hk) | hk
      · exact Or.inl hk
      · exact Or.inr (by omega)
      · exact Or.inr (by omega)) M2
    refine ⟨by simp [h5], ?_, M2.mono (fun k _ hk => hVV k hk)⟩
    rw [hT]
    exact hB
end Go.Proofs.YtohmmjaikhpcfaaGreat
