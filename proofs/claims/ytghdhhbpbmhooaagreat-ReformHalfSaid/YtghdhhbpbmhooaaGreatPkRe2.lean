import Derived.Test.YtghdhhbpbmhooaaGreatPkRe
import Derived.Test.YtghdhhbpbmhooaaGreatPkFet2
import Derived.Test.YtghdhhbpbmhooaaGreatTail2
import Derived.Test.YtghdhhbpbmhooaaGreatApPlain
/- a change of the projection by a hand -/
namespace Go.Proofs.YtghdhhbpbmhooaaGreat
open Go.RowKit Esch

theorem ReS.ask_data (s : ReS) : s.ask.1.data = ⟨#[]⟩ := by
  unfold ReS.ask
  repeat' split
  all_goals rfl
theorem ReS.ask_2 (s : ReS) : s.ask.2 = !decide (s.at = 4) := by
  unfold ReS.ask
  by_cases h4 : s.at = 4
  · rw [if_pos h4]; simp [h4]
  rw [if_neg h4]
  simp only [h4, decide_false, Bool.not_false]
  repeat' split
  all_goals rfl
theorem ReS.ask_small {s : ReS} (h : Small s.q.chains) : Small s.ask.1.p.chains := by
  unfold ReS.ask
  repeat' split
  all_goals first | exact h | exact small_nil
theorem ReS.hear_down (s : ReS) (x : AnS) (b : Bool) (h : x.code = 45) : s.hear x b = s := by
  unfold ReS.hear
  rw [if_pos (Or.inr (Or.inr h))]
section
variable {w0 w : World} {c hb : Nat} {V : Nat → Prop} {hd : HdS}
/-- a hand's question, with a projection or none -/
theorem hdP_hand (h : Hd1 w0 c hb V hd w) (hc : c < 1000000) (q : QS) (ca : Option Addr) (cc : Nat) (hs : Small q.p.chains) (S' : Nat → Prop) (hq : ListsAt S' w ca q.p.chains) (hS : ∀ k, S' k → k < w.heap.size → ¬ V k) (hds : q.data.size ≤ 9223372036854775807) (f : Int) :
    Calls Tryz.prog 26 #[.pointer (some ⟨hb, 0, none⟩), qV q ca cc, .int .i64 f] w (Hd1HPost w0 (c + 1) hb V w (hd.ask q f)) := by
  obtain ⟨⟨U, T, hH, hT, hv⟩, hl, ho, hB⟩ := h
  refine (handAsk_any q ca cc f hH (by omega) hds hs S' hq (fun k hk hl e => hS k hk hl (hv k e))).mono ?_
  rintro e w' ⟨a, c', rfl, hl', hH', hM⟩
  have hz := hM.size
  refine ⟨a, c', rfl, hl', ⟨⟨grow U w w', _, hH', by omega, fun k hk => hk.imp (hv k) id⟩, fun k hk => ?_, fun k hk => ?_, hB.trans (hM.below_at hB.size (fun k hk e => by have := ho k (hv k e); omega))⟩, hM.mono (fun k _ hk => hv k hk)⟩
  · rcases hk with hk | hk
    · have := hl k hk; omega
    · exact hk.2
  · rcases hk with hk | hk
    · exact ho k hk
    · have := hB.size; omega
theorem Hd1.resub {V' : Nat → Prop} {w' : World} {c' : Nat} (h : Hd1 w0 c' hb V' hd w') (hv : ∀ k, V' k → V k ∨ w.heap.size ≤ k) (hl : ∀ k, V k → k < w.heap.size) (ho : ∀ k, V k → w0.heap.size ≤ k) (hz0 : w0.heap.size ≤ w.heap.size) (hz : w.heap.size ≤ w'.heap.size) (hc : c' ≤ c) : Hd1 w0 c hb (grow V w w') hd w' := by
  obtain ⟨⟨U, T, g1, g2, g3⟩, g4, g5, g6⟩ := h
  refine ⟨⟨U, T, g1, by omega, fun k hk => ?_⟩, fun k hk => ?_, fun k hk => ?_, g6⟩
  · rcases hv k (g3 k hk) with e | e
    · exact Or.inl e
    · exact Or.inr ⟨e, g4 k (g3 k hk)⟩
  · rcases hk with hk | hk
    · exact Nat.lt_of_lt_of_le (hl k hk) hz
    · exact hk.2
  · rcases hk with hk | hk
    · exact ho k hk
    · omega
end
/-- a hand and a change side by side -/
structure Ch1 (w0 : World) (c hb rb tb : Nat) (V S : Nat → Prop) (s : HdS × ReS) (w : World) : Prop where
  hd : Hd1 w0 c hb V s.1 w
  re : ReAt w rb tb S s.2
  ok : s.2.ok
  sl : ∀ k, S k → k < w.heap.size
  ap : ∀ k, V k → ¬ S k
section
variable {w0 w : World} {c hb rb tb : Nat} {V S : Nat → Prop} {s : HdS × ReS}
theorem Ch1.mod {F : Nat → Prop} {w' : World} (h : Ch1 w0 c hb rb tb V S s w) (hM : Mod F w w') (hF : ∀ k, V k → ¬ F k) (hS : ∀ k, S k → ¬ F k) (hw : ∀ k, k < w0.heap.size → ¬ F k) : Ch1 w0 c hb rb tb V S s w' :=
  ⟨h.hd.mod hM hF hw, h.re.mod hM (fun k hk _ => hS k hk), h.ok, fun k hk => Nat.lt_of_lt_of_le (h.sl k hk) hM.size, h.ap⟩
theorem Ch1.below' {w' : World} (h : Ch1 w0 c hb rb tb V S s w) (hB : Below w.heap.size w w') : Ch1 w0 c hb rb tb V S s w' := h.mod (F := none') (Mod.of_below hB) (fun _ _ => id) (fun _ _ => id) (fun _ _ => id)
theorem Ch1.more (h : Ch1 w0 c hb rb tb V S s w) {c' : Nat} (hc : c ≤ c') : Ch1 w0 c' hb rb tb V S s w := ⟨h.hd.more hc, h.re, h.ok, h.sl, h.ap⟩
theorem Ch1.cast {s' : HdS × ReS} (h : Ch1 w0 c hb rb tb V S s w) (e : s' = s) : Ch1 w0 c hb rb tb V S s' w := by rw [e]; exact h
/-- the hand has changed -/
theorem Ch1.hand {w' : World} {c' : Nat} {hd' : HdS} (h : Ch1 w0 c hb rb tb V S s w) (hH : Hd1 w0 c' hb (grow V w w') hd' w') (hM : Mod V w w') : Ch1 w0 c' hb rb tb (grow V w w') S (hd', s.2) w' := by
  have hz := hM.size
  refine ⟨hH, h.re.mod hM (fun k hk _ e => h.ap k e hk), h.ok, fun k hk => Nat.lt_of_lt_of_le (h.sl k hk) hz, fun k hk hS => ?_⟩
  rcases hk with hk | hk
  · exact h.ap k hk hS
  · have := h.sl k hS; omega
/-- the change has changed -/
theorem Ch1.chg {w' : World} {re' : ReS} (h : Ch1 w0 c hb rb tb V S s w) (hR : ReAt w' rb tb (fun k => S k ∨ (w.heap.size ≤ k ∧ k < w'.heap.size)) re') (hk : re'.ok) (hM : Mod (fun k => k = rb ∨ k = tb) w w') (hw : ∀ k, S k → w0.heap.size ≤ k) : Ch1 w0 c hb rb tb V (fun k => S k ∨ (w.heap.size ≤ k ∧ k < w'.heap.size)) (s.1, re') w' := by
  have hz := hM.size
  refine ⟨h.hd.mod hM (fun k hk e => ?_) (fun k hk e => ?_), hR, hk, fun k hk => ?_, fun k hk hS => ?_⟩
  · rcases e with e | e
    · subst e; exact h.ap k hk h.re.sb
    · subst e; exact h.ap k hk h.re.st
  · rcases e with e | e
    · subst e; have := hw k h.re.sb; omega
    · subst e; have := hw k h.re.st; omega
  · rcases hk with hk | hk
    · exact Nat.lt_of_lt_of_le (h.sl k hk) hz
    · exact hk.2
  · rcases hS with hS | hS
    · exact h.ap k hk hS
    · have := h.hd.lt k hk; omega
end
/-- one round; where it is over nothing more is done -/
def chTurn (s : HdS × ReS) (f : Int) : HdS × ReS :=
  if s.2.at = 4 then s else ((s.1.ask s.2.ask.1 f).2, if (s.1.ask s.2.ask.1 f).1.2 = true ∧ (s.1.ask s.2.ask.1 f).1.1.code = 45 then s.2.skip else s.2.hear (s.1.ask s.2.ask.1 f).1.1 (s.1.ask s.2.ask.1 f).1.2)
def stC (hd : HdS) (q : Proj) (fates : List Int) : Nat → HdS × ReS
  | 0 => (hd, re0 q)
  | i + 1 => chTurn (stC hd q fates i) (fateF fates i)
theorem stC_stop {hd : HdS} {q : Proj} {fates : List Int} {i : Nat} (h : (stC hd q fates i).2.at = 4) : ∀ j, stC hd q fates (i + j) = stC hd q fates i
  | 0 => rfl
  | j + 1 => by
    show chTurn (stC hd q fates (i + j)) _ = _
    rw [stC_stop h j]
    unfold chTurn
    rw [if_pos h]
def ChRel (w0 : World) (c hb rb tb : Nat) (V : Nat → Prop) (w : World) (hd : HdS) (q : Proj) (fates : List Int) (g : Nat) (s9 : Value) (wr : World) : Prop :=
  ∃ (i : Nat) (V' S' : Nat → Prop), g = fates.length + 60 - i ∧ i ≤ fates.length + 60 ∧ s9 = .int .i64 i ∧ Ch1 w0 (c + i) hb rb tb V' S' (stC hd q fates i) wr ∧ (∀ k, V' k → V k ∨ w.heap.size ≤ k) ∧ (∀ k, S' k → w.heap.size ≤ k) ∧ Mod V w wr
def Ch18Post (w0 : World) (c hb : Nat) (V : Nat → Prop) (w : World) (r : HdS × ReS) (e : Ending) (w' : World) : Prop := e = .returned (.tuple #[.int .i64 r.2.overE, .bool (decide (r.2.at = 4))]) ∧ Hd1 w0 c hb (grow V w w') r.1 w' ∧ Mod V w w'
set_option maxRecDepth 100000 in
set_option maxHeartbeats 4000000 in
theorem change18_any {w0 w : World} {c hb : Nat} {V : Nat → Prop} {hd : HdS} (h : Hd1 w0 c hb V hd w) (hc : c ≤ 100000) (S : Nat → Prop) (q : Proj) (a : Option Addr) (cc : Nat) (hs : Small q.chains) (hl : ListsAt S w a q.chains) (fa : Option Addr) (fates : List Int) (fc : Nat) (hfa : BytesAt w fa fates) (hfl : fates.length ≤ 100)
    (hfV : ∀ b off, fa = some ⟨b, off, none⟩ → 0 < fates.length → ¬ V b) :
    Calls Tryz.prog 30 #[.pointer (some ⟨hb, 0, none⟩), .agg #[.int .i64 q.epoch, .slice a q.chains.length cc], .slice fa fates.length fc] w (Ch18Post w0 (c + fates.length + 60) hb V w (stC hd q fates (fates.length + 60))) := by
  obtain ⟨W0, hW0, hB0, hz0, p0, p1⟩ := oneBox w 24 (.int .i64 q.epoch) (.slice a q.chains.length cc)
  have hnw := reNew_any S W0 q a cc hs (hl.mod (F := none') (Mod.of_below hB0) (fun _ _ _ => id))
  have HW0 := Lib.hid hW0
  have Hd0 := Lib.hid (h.below' hB0)
  have Hlt0 := Lib.hid h.lt
  have Hold := Lib.hid h.old
  have Hb0 := Lib.hid h.below
  have HFA := Lib.hid hfa
  have HFV := Lib.hid hfV
  have Hfl := Lib.hid hfl
  have hflI : (fates.length : Int) ≤ 100 := by omega
  have HB0 := Lib.hid hB0
  clear hW0 h hl hs hfa hfV hfl hB0
  go_enter Tryz.func30, Tryz.ntmps30
  go_wp2_with fail
  rw [← HW0.out]
  refine hnw.mono ?_
  clear hnw
  rintro e w1 ⟨rb, tb, rfl, hR1, hB1⟩
  have hz1 := hB1.size
  have HA1 := Lib.hid (show Ch1 w0 c hb rb tb V (fun k => w.heap.size ≤ k ∧ k < w1.heap.size) (hd, re0 q) w1 from ⟨Hd0.out.below' hB1, hR1.sub (fun k hk h => ⟨by have h : W0.heap.size ≤ k := h; omega, hk⟩), re0_ok q, fun k hk => hk.2, fun k hk e => by have := Hlt0.out k hk; omega⟩)
  have HMW1 := Lib.hid (Mod.of_below (F := V) (HB0.out.trans (hB1.mono HB0.out.size)))
  clear hR1 hB1 p0 p1 hz0 hz1
  go_wp2_with fail
  go_loopg [9] (fates.length + 60) (fun g s9 wr => ChRel w0 c hb rb tb V w hd q fates g s9 wr)
  case atStart =>
    exact ⟨0, _, _, rfl, by omega, rfl, HA1.out, fun k hk => Or.inl hk, fun k hk => hk.1, HMW1.out⟩
  case round =>
    clear HA1 HMW1
    obtain ⟨i, V', S3, rfl, hi, rfl, hA, hV, hS, hMV⟩ := hrel
    have HV := Lib.hid hV
    have HS3 := Lib.hid hS
    have HMV := Lib.hid hMV
    clear hV hMV hS
    have i1 : (0 : Int) ≤ i := by omega
    have i2 : (i : Int) ≤ fates.length + 60 := by omega
    by_cases hi3 : i < fates.length + 60
    · have i0 : (i : Int) < fates.length + 60 := by omega
      by_cases h5 : (stC hd q fates i).2.at = 4
      · have hst : stC hd q fates (fates.length + 60) = stC hd q fates i := by
          have := stC_stop h5 (fates.length + 60 - i)
          rwa [show i + (fates.length + 60 - i) = fates.length + 60 by omega] at this
        have Hst := Lib.hid hst
        have hask := reAsk_any hA.re hA.ok
        rw [show (stC hd q fates i).2.ask = (qz, false) from if_pos h5] at hask
        have HA := Lib.hid hA
        clear h5 hst hA
        go_wp2_with fail
        refine hask.mono ?_
        clear hask
        rintro e W1 ⟨qa, qcc, rfl, hl1, hB1⟩
        have hA1 := HA.out.below' hB1
        have HB1 := Lib.hid hB1
        clear HA hB1 hl1
        simp only [qV, Esch.p0, List.length_nil]
        go_wp2_with fail
        obtain ⟨W2, hW2, hB2, hz2, -⟩ := ask_box W1 (.int .i64 0) (.int .i64 0) (.int .i64 0) (.int .i64 0) (.int .i64 0) (.int .i64 0) (.string ⟨#[]⟩) (.int .i64 0) (.slice qa 0 qcc)
        rw [← hW2]
        have hA := hA1.below' hB2
        have HMV2 := Lib.hid ((HMV.out.trans (Mod.of_below HB1.out)).trans (Mod.of_below hB2))
        clear hW2 hz2 hB2 hA1 i0 i2 HMV HB1
        have HMV := HMV2
        have hov := reOver_any hA.re
        rw [show (stC hd q fates i).2 = (stC hd q fates (fates.length + 60)).2 from by rw [Hst.out]] at hov
        have HA := Lib.hid hA
        clear hA
        obtain ⟨oe, hoe⟩ : ∃ oe, oe = (stC hd q fates (fates.length + 60)).2.overE := ⟨_, rfl⟩
        obtain ⟨ob, hob⟩ : ∃ ob, ob = decide ((stC hd q fates (fates.length + 60)).2.at = 4) := ⟨_, rfl⟩
        rw [← hoe, ← hob] at hov
        have Hoe := Lib.hid hoe
        have Hob := Lib.hid hob
        clear hoe hob
        go_wp2_with fail
        refine hov.mono ?_
        clear hov
        rintro e w6 ⟨rfl, hM6⟩
        have HF := Lib.hid (HA.out.hd.mod hM6 (fun _ _ => id) (fun _ _ => id))
        have HM6 := Lib.hid hM6
        clear hM6
        go_wp2_with fail
        refine bodyPost_ret (v := .tuple #[.int .i64 oe, .bool ob]) (by simp only [results, Tryz.results30]; go_simp) rfl ?_
        have hMe : Mod V w w6 := HMV.out.trans (mod_none HM6.out)
        unfold Ch18Post
        rw [← Hoe.out, ← Hob.out, Hst.out]
        exact ⟨rfl, HF.out.resub HV.out Hlt0.out Hold.out Hb0.out.size hMe.size (by omega), hMe⟩
      · have H5 := Lib.hid h5
        have hlt6 := Hfl.out
        clear h5
        by_cases hff : i < fates.length
        · obtain ⟨fb, foff, rfl, hfb, hfc⟩ := HFA.out (by omega)
          obtain ⟨hfv, hf0, hf1⟩ := hfc i hff
          have hfvr := HMV.out.at hfv (HFV.out fb foff rfl (by omega))
          have hff' : decide (i < fates.length) = true := by simpa using hff
          obtain ⟨fv, hfv'⟩ : ∃ fv, fv = fates.getD i 0 := ⟨_, rfl⟩
          have hfq : fateF fates i = fv % 4 := by unfold fateF; rw [if_pos hff, hfv']
          rw [← hfv'] at hfvr hf0 hf1
          have Hfv := Lib.hid hfv'
          have Hfq := Lib.hid hfq
          have n0 : (i : Int) < fates.length := by omega
          have hfbr := cell_lt hfvr
          clear hfv hfc hfv' hfq hff
          have HA := Lib.hid hA
          obtain ⟨⟨⟨qk, qu, qe, qp, qs, qn, qd, ⟨qpe, qls⟩⟩, qb⟩, hr⟩ : ∃ r, r = (stC hd q fates i).2.ask := ⟨_, rfl⟩
          have hask := reAsk_any hA.re hA.ok
          have hqb := (stC hd q fates i).2.ask_2
          have hqd := (stC hd q fates i).2.ask_data
          have hqs := ReS.ask_small (s := (stC hd q fates i).2) hA.re.smq
          rw [← hr] at hask hqb hqd hqs
          simp only [decide_eq_false H5.out, Bool.not_false] at hqb hqd hqs
          subst hqb hqd
          have Hqs := Lib.hid hqs
          have Hr := Lib.hid hr
          clear hr hqs hA
          go_wp2_with fail
          refine hask.mono ?_
          clear hask
          rintro e W1 ⟨qa, qcc, rfl, hl1, hB1⟩
          have hA1 := HA.out.below' hB1
          have HB1 := Lib.hid hB1
          obtain ⟨hfv1, hfl1⟩ := cell_both' HB1.out hfvr hfbr
          simp only [qV]
          clear hB1
          go_wp2_with fail
          obtain ⟨W2, hW2, hB2, hz2, b0, b1, b2, b3, b4, b5, b6, b7, b8⟩ := ask_box W1 (.int .i64 qk) (.int .i64 qu) (.int .i64 qe) (.int .i64 qp) (.int .i64 qs) (.int .i64 qn) (.string ⟨#[]⟩) (.int .i64 qpe) (.slice qa qls.length qcc)
          rw [← hW2]
          have hA2 := hA1.below' hB2
          have HB12 := Lib.hid (HB1.out.trans (hB2.mono HB1.out.size))
          have hl2 := hl1.mod (F := none') (Mod.of_below hB2) (fun _ _ _ => id)
          skip
          have hc := hdP_hand hA2.hd (by omega) ⟨qk, qu, qe, qp, qs, qn, ⟨#[]⟩, ⟨qpe, qls⟩⟩ qa qcc Hqs.out _ hl2 (fun k hk _ e => by have hk : wr.heap.size ≤ k := hk; have := HA.out.hd.lt k e; omega) (by decide : (ByteArray.mk #[]).size ≤ 9223372036854775807) (fv % 4)
          obtain ⟨⟨⟨⟨xc, xn, xd, ⟨xpe, xls⟩, xm, xs, xe⟩, xb⟩, hd'⟩, hxr⟩ : ∃ r, r = (stC hd q fates i).1.ask ⟨qk, qu, qe, qp, qs, qn, ⟨#[]⟩, ⟨qpe, qls⟩⟩ (fv % 4) := ⟨_, rfl⟩
          rw [← hxr] at hc
          simp only [qV] at hc
          have Hxr := Lib.hid hxr
          have HA2 := Lib.hid hA2
          clear hW2 hz2 hB2 hA1 hA2 hl1 hl2 hxr
          go_wp2_with fail
          refine hc.mono ?_
          clear hc b0 b1 b2 b3 b4 b5 b6 b7 b8
          rintro e W3 ⟨xa, xcc, rfl, hl3, hD3, hM3⟩
          have hA3 := HA2.out.hand hD3 hM3
          have HMV2 := Lib.hid (HMV.out.trans (Mod.of_below HB12.out))
          have hVV : ∀ k, k < w.heap.size → V' k → V k := fun k hk h => (HV.out k h).resolve_right (by omega)
          have HMV3 := Lib.hid (HMV2.out.trans' hM3 hVV)
          have HV3 := Lib.hid (show ∀ k, grow V' W2 W3 k → V k ∨ w.heap.size ≤ k from fun k hk => by
            have := HMV2.out.size
            rcases hk with hk | hk
            · exact HV.out k hk
            · exact Or.inr (by omega))
          have HL3 := Lib.hid hl3
          have HA3 := Lib.hid hA3
          have hM3z := Lib.hid hM3.size
          clear hl3 hD3 hM3 hA3 hVV
          simp only [aV]
          obtain ⟨W3b, hW3, hB3, hz3, b0, b1, b2, b3, b4, b5, b6, b7⟩ := an_boxA W3 (.int .i64 xc) (.int .i64 xn) (.string xd) (.int .i64 xpe) (.slice xa xls.length xcc) (.int .i64 xm) (.int .i64 xs) (.int .i64 xe)
          replace HA3 := Lib.hid (HA3.out.below' hB3)
          replace HL3 := Lib.hid (HL3.out.mod (F := none') (Mod.of_below hB3) (fun _ _ _ => id))
          replace HMV3 := Lib.hid (HMV3.out.trans (Mod.of_below hB3))
          have HW3 := Lib.hid hW3
          have HX0 := Lib.hid b0
          have HX1 := Lib.hid b1
          have HX2 := Lib.hid b2
          have HX3 := Lib.hid b3
          have HX4 := Lib.hid b4
          have HX5 := Lib.hid b5
          have HX6 := Lib.hid b6
          have HX7 := Lib.hid b7
          have hne3 : W3.heap.size ≠ rb := by have := HA2.out.sl rb HA3.out.re.sb; have := hM3z.out; omega
          clear hW3 hB3 hz3 b0 b1 b2 b3 b4 b5 b6 b7
          have hturn : chTurn (stC hd q fates i) (fv % 4) = (hd', if xb = true ∧ xc = 45 then (stC hd q fates i).2.skip else (stC hd q fates i).2.hear ⟨xc, xn, xd, ⟨xpe, xls⟩, xm, xs, xe⟩ xb) := by
            unfold chTurn
            rw [if_neg H5.out, ← Hr.out, ← Hxr.out]
          have hst1 : stC hd q fates (i + 1) = (hd', if xb = true ∧ xc = 45 then (stC hd q fates i).2.skip else (stC hd q fates i).2.hear ⟨xc, xn, xd, ⟨xpe, xls⟩, xm, xs, xe⟩ xb) := by
            show chTurn (stC hd q fates i) (fateF fates i) = _
            rw [Hfq.out]
            exact hturn
          clear hturn
          cases xb
          · have Hst4 := Lib.hid (hst1.trans (by rw [if_neg (by simp)]))
            clear hst1
            go_wp2_with fail
            rw [← HW3.out]
            have hh := reHear_any ⟨xc, xn, xd, ⟨xpe, xls⟩, xm, xs, xe⟩ xa xcc false HA3.out.re HA3.out.ok _ HL3.out
            simp only [aV] at hh
            refine hh.mono ?_
            clear hh
            rintro e W4 ⟨rfl, hR4, hM4⟩
            have HA4 := Lib.hid (HA3.out.chg hR4 (ReS.hear_ok HA3.out.ok _ _) hM4 (fun k hk => by have := HS3.out k hk; have := Hb0.out.size; omega))
            have HMV4 := Lib.hid (HMV3.out.trans' hM4 (fun k hk e => by rcases e with e | e; (have := HS3.out _ HA3.out.re.sb; omega); (have := HS3.out _ HA3.out.re.st; omega)))
            have HS4 := Lib.hid (show ∀ k, (S3 k ∨ (W3b.heap.size ≤ k ∧ k < W4.heap.size)) → w.heap.size ≤ k from fun k hk => by have := HMV3.out.size; rcases hk with hk | hk; exact HS3.out k hk; omega)
            clear hR4 hM4
            go_wp2_with fail
            go_roundg (fates.length + 60 - (i + 1))
            case measure => omega
            case rel =>
              exact ⟨i + 1, _, _, rfl, by omega, by go_num, (HA4.out.more (by omega)).cast Hst4.out, HV3.out, HS4.out, HMV4.out⟩
          · by_cases h45 : xc = 45
            · subst h45
              have Hst4 := Lib.hid (hst1.trans (by rw [if_pos ⟨rfl, rfl⟩]))
              clear hst1
              go_wp2_with fail
              rw [← HW3.out]
              have hsk := reSkip_any HA3.out.re HA3.out.ok
              obtain ⟨sk, hsk'⟩ : ∃ sk, sk = (stC hd q fates i).2.skipB := ⟨_, rfl⟩
              unfold ReSkipPost at hsk
              rw [← hsk'] at hsk
              have Hsk := Lib.hid hsk'
              clear hsk'
              refine hsk.mono ?_
              clear hsk
              rintro e W4 ⟨rfl, hR4, hM4⟩
              have HA4 := Lib.hid (HA3.out.chg (hR4.sub (fun _ _ hk => Or.inl hk)) (ReS.skip_ok HA3.out.ok) (hM4.mono (fun _ _ h => Or.inl h)) (fun k hk => by have := HS3.out k hk; have := Hb0.out.size; omega))
              have HMV4 := Lib.hid (HMV3.out.trans' hM4 (fun k hk e => by have e : k = rb := e; have := HS3.out _ HA3.out.re.sb; omega))
              have HS4 := Lib.hid (show ∀ k, (S3 k ∨ (W3b.heap.size ≤ k ∧ k < W4.heap.size)) → w.heap.size ≤ k from fun k hk => by have := HMV3.out.size; rcases hk with hk | hk; exact HS3.out k hk; omega)
              have HMs := Lib.hid hM4
              have y0 := hM4.at HX0.out hne3
              have y1 := hM4.at HX1.out hne3
              have y2 := hM4.at HX2.out hne3
              have y3 := hM4.at HX3.out hne3
              have y4 := hM4.at HX4.out hne3
              have y5 := hM4.at HX5.out hne3
              have y6 := hM4.at HX6.out hne3
              have y7 := hM4.at HX7.out hne3
              clear hR4 hM4
              cases sk
              · skip
                go_wp2_with fail
                clear y0 y1 y2 y3 y4 y5 y6 y7
                have hh := reHear_any ⟨45, xn, xd, ⟨xpe, xls⟩, xm, xs, xe⟩ xa xcc true HA4.out.re HA4.out.ok (From W2.heap.size) ((HL3.out.mod HMs.out (fun k hk _ e => by have hk : W2.heap.size ≤ k := hk; have e : k = rb := e; have := HMV2.out.size; have := HA2.out.sl rb HA3.out.re.sb; omega)))
                rw [ReS.hear_down _ _ _ rfl] at hh
                simp only [aV] at hh
                refine hh.mono ?_
                clear hh
                rintro e W5 ⟨rfl, hR5, hM5⟩
                have HA5 := Lib.hid (HA4.out.chg hR5 HA4.out.ok hM5 (fun k hk => by have := HS4.out k hk; have := Hb0.out.size; omega))
                have HMV5 := Lib.hid (HMV4.out.trans' hM5 (fun k hk e => by rcases e with e | e; (have := HS4.out _ HA4.out.re.sb; omega); (have := HS4.out _ HA4.out.re.st; omega)))
                have HS5 := Lib.hid (show ∀ k, ((S3 k ∨ (W3b.heap.size ≤ k ∧ k < W4.heap.size)) ∨ (W4.heap.size ≤ k ∧ k < W5.heap.size)) → w.heap.size ≤ k from fun k hk => by have := HMV4.out.size; rcases hk with hk | hk; exact HS4.out k hk; omega)
                clear hR5 hM5 HA4 HS4 HMV4
                have HA4 := HA5
                have HS4 := HS5
                have HMV4 := HMV5
                go_wp2_with fail
                go_roundg (fates.length + 60 - (i + 1))
                case measure => omega
                case rel =>
                  exact ⟨i + 1, _, _, rfl, by omega, by go_num, (HA4.out.more (by omega)).cast Hst4.out, HV3.out, HS4.out, HMV4.out⟩
              · skip
                go_wp2_with fail
                go_roundg (fates.length + 60 - (i + 1))
                case measure => omega
                case rel =>
                  exact ⟨i + 1, _, _, rfl, by omega, by go_num, (HA4.out.more (by omega)).cast Hst4.out, HV3.out, HS4.out, HMV4.out⟩
            · have e45 : (xc == 45) = false := by simpa using h45
              have Hst4 := Lib.hid (hst1.trans (by rw [if_neg (fun e => h45 e.2)]))
              clear hst1 h45
              go_wp2_with fail
              rw [← HW3.out]
              have hh := reHear_any ⟨xc, xn, xd, ⟨xpe, xls⟩, xm, xs, xe⟩ xa xcc true HA3.out.re HA3.out.ok _ HL3.out
              simp only [aV] at hh
              refine hh.mono ?_
              clear hh
              rintro e W4 ⟨rfl, hR4, hM4⟩
              have HA4 := Lib.hid (HA3.out.chg hR4 (ReS.hear_ok HA3.out.ok _ _) hM4 (fun k hk => by have := HS3.out k hk; have := Hb0.out.size; omega))
              have HMV4 := Lib.hid (HMV3.out.trans' hM4 (fun k hk e => by rcases e with e | e; (have := HS3.out _ HA3.out.re.sb; omega); (have := HS3.out _ HA3.out.re.st; omega)))
              have HS4 := Lib.hid (show ∀ k, (S3 k ∨ (W3b.heap.size ≤ k ∧ k < W4.heap.size)) → w.heap.size ≤ k from fun k hk => by have := HMV3.out.size; rcases hk with hk | hk; exact HS3.out k hk; omega)
              clear hR4 hM4
              go_wp2_with fail
              go_roundg (fates.length + 60 - (i + 1))
              case measure => omega
              case rel =>
                exact ⟨i + 1, _, _, rfl, by omega, by go_num, (HA4.out.more (by omega)).cast Hst4.out, HV3.out, HS4.out, HMV4.out⟩
        · have hff2 : fates.length ≤ i := by omega
          have hff' : decide (i < fates.length) = false := by simpa using hff2
          have hfq : fateF fates i = 0 := if_neg hff
          have Hfq := Lib.hid hfq
          clear hfq hff hff2
          have HA := Lib.hid hA
          obtain ⟨⟨⟨qk, qu, qe, qp, qs, qn, qd, ⟨qpe, qls⟩⟩, qb⟩, hr⟩ : ∃ r, r = (stC hd q fates i).2.ask := ⟨_, rfl⟩
          have hask := reAsk_any hA.re hA.ok
          have hqb := (stC hd q fates i).2.ask_2
          have hqd := (stC hd q fates i).2.ask_data
          have hqs := ReS.ask_small (s := (stC hd q fates i).2) hA.re.smq
          rw [← hr] at hask hqb hqd hqs
          simp only [decide_eq_false H5.out, Bool.not_false] at hqb hqd hqs
          subst hqb hqd
          have Hqs := Lib.hid hqs
          have Hr := Lib.hid hr
          clear hr hqs hA
          go_wp2_with fail
          refine hask.mono ?_
          clear hask
          rintro e W1 ⟨qa, qcc, rfl, hl1, hB1⟩
          have hA1 := HA.out.below' hB1
          have HB1 := Lib.hid hB1
          skip
          simp only [qV]
          clear hB1
          go_wp2_with fail
          obtain ⟨W2, hW2, hB2, hz2, b0, b1, b2, b3, b4, b5, b6, b7, b8⟩ := ask_box W1 (.int .i64 qk) (.int .i64 qu) (.int .i64 qe) (.int .i64 qp) (.int .i64 qs) (.int .i64 qn) (.string ⟨#[]⟩) (.int .i64 qpe) (.slice qa qls.length qcc)
          rw [← hW2]
          have hA2 := hA1.below' hB2
          have HB12 := Lib.hid (HB1.out.trans (hB2.mono HB1.out.size))
          have hl2 := hl1.mod (F := none') (Mod.of_below hB2) (fun _ _ _ => id)
          skip
          have hc := hdP_hand hA2.hd (by omega) ⟨qk, qu, qe, qp, qs, qn, ⟨#[]⟩, ⟨qpe, qls⟩⟩ qa qcc Hqs.out _ hl2 (fun k hk _ e => by have hk : wr.heap.size ≤ k := hk; have := HA.out.hd.lt k e; omega) (by decide : (ByteArray.mk #[]).size ≤ 9223372036854775807) 0
          obtain ⟨⟨⟨⟨xc, xn, xd, ⟨xpe, xls⟩, xm, xs, xe⟩, xb⟩, hd'⟩, hxr⟩ : ∃ r, r = (stC hd q fates i).1.ask ⟨qk, qu, qe, qp, qs, qn, ⟨#[]⟩, ⟨qpe, qls⟩⟩ 0 := ⟨_, rfl⟩
          rw [← hxr] at hc
          simp only [qV] at hc
          have Hxr := Lib.hid hxr
          have HA2 := Lib.hid hA2
          clear hW2 hz2 hB2 hA1 hA2 hl1 hl2 hxr
          go_wp2_with fail
          refine hc.mono ?_
          clear hc b0 b1 b2 b3 b4 b5 b6 b7 b8
          rintro e W3 ⟨xa, xcc, rfl, hl3, hD3, hM3⟩
          have hA3 := HA2.out.hand hD3 hM3
          have HMV2 := Lib.hid (HMV.out.trans (Mod.of_below HB12.out))
          have hVV : ∀ k, k < w.heap.size → V' k → V k := fun k hk h => (HV.out k h).resolve_right (by omega)
          have HMV3 := Lib.hid (HMV2.out.trans' hM3 hVV)
          have HV3 := Lib.hid (show ∀ k, grow V' W2 W3 k → V k ∨ w.heap.size ≤ k from fun k hk => by
            have := HMV2.out.size
            rcases hk with hk | hk
            · exact HV.out k hk
            · exact Or.inr (by omega))
          have HL3 := Lib.hid hl3
          have HA3 := Lib.hid hA3
          have hM3z := Lib.hid hM3.size
          clear hl3 hD3 hM3 hA3 hVV
          simp only [aV]
          obtain ⟨W3b, hW3, hB3, hz3, b0, b1, b2, b3, b4, b5, b6, b7⟩ := an_boxA W3 (.int .i64 xc) (.int .i64 xn) (.string xd) (.int .i64 xpe) (.slice xa xls.length xcc) (.int .i64 xm) (.int .i64 xs) (.int .i64 xe)
          replace HA3 := Lib.hid (HA3.out.below' hB3)
          replace HL3 := Lib.hid (HL3.out.mod (F := none') (Mod.of_below hB3) (fun _ _ _ => id))
          replace HMV3 := Lib.hid (HMV3.out.trans (Mod.of_below hB3))
          have HW3 := Lib.hid hW3
          have HX0 := Lib.hid b0
          have HX1 := Lib.hid b1
          have HX2 := Lib.hid b2
          have HX3 := Lib.hid b3
          have HX4 := Lib.hid b4
          have HX5 := Lib.hid b5
          have HX6 := Lib.hid b6
          have HX7 := Lib.hid b7
          have hne3 : W3.heap.size ≠ rb := by have := HA2.out.sl rb HA3.out.re.sb; have := hM3z.out; omega
          clear hW3 hB3 hz3 b0 b1 b2 b3 b4 b5 b6 b7
          have hturn : chTurn (stC hd q fates i) 0 = (hd', if xb = true ∧ xc = 45 then (stC hd q fates i).2.skip else (stC hd q fates i).2.hear ⟨xc, xn, xd, ⟨xpe, xls⟩, xm, xs, xe⟩ xb) := by
            unfold chTurn
            rw [if_neg H5.out, ← Hr.out, ← Hxr.out]
          have hst1 : stC hd q fates (i + 1) = (hd', if xb = true ∧ xc = 45 then (stC hd q fates i).2.skip else (stC hd q fates i).2.hear ⟨xc, xn, xd, ⟨xpe, xls⟩, xm, xs, xe⟩ xb) := by
            show chTurn (stC hd q fates i) (fateF fates i) = _
            rw [Hfq.out]
            exact hturn
          clear hturn
          cases xb
          · have Hst4 := Lib.hid (hst1.trans (by rw [if_neg (by simp)]))
            clear hst1
            go_wp2_with fail
            rw [← HW3.out]
            have hh := reHear_any ⟨xc, xn, xd, ⟨xpe, xls⟩, xm, xs, xe⟩ xa xcc false HA3.out.re HA3.out.ok _ HL3.out
            simp only [aV] at hh
            refine hh.mono ?_
            clear hh
            rintro e W4 ⟨rfl, hR4, hM4⟩
            have HA4 := Lib.hid (HA3.out.chg hR4 (ReS.hear_ok HA3.out.ok _ _) hM4 (fun k hk => by have := HS3.out k hk; have := Hb0.out.size; omega))
            have HMV4 := Lib.hid (HMV3.out.trans' hM4 (fun k hk e => by rcases e with e | e; (have := HS3.out _ HA3.out.re.sb; omega); (have := HS3.out _ HA3.out.re.st; omega)))
            have HS4 := Lib.hid (show ∀ k, (S3 k ∨ (W3b.heap.size ≤ k ∧ k < W4.heap.size)) → w.heap.size ≤ k from fun k hk => by have := HMV3.out.size; rcases hk with hk | hk; exact HS3.out k hk; omega)
            clear hR4 hM4
            go_wp2_with fail
            go_roundg (fates.length + 60 - (i + 1))
            case measure => omega
            case rel =>
              exact ⟨i + 1, _, _, rfl, by omega, by go_num, (HA4.out.more (by omega)).cast Hst4.out, HV3.out, HS4.out, HMV4.out⟩
          · by_cases h45 : xc = 45
            · subst h45
              have Hst4 := Lib.hid (hst1.trans (by rw [if_pos ⟨rfl, rfl⟩]))
              clear hst1
              go_wp2_with fail
              rw [← HW3.out]
              have hsk := reSkip_any HA3.out.re HA3.out.ok
              obtain ⟨sk, hsk'⟩ : ∃ sk, sk = (stC hd q fates i).2.skipB := ⟨_, rfl⟩
              unfold ReSkipPost at hsk
              rw [← hsk'] at hsk
              have Hsk := Lib.hid hsk'
              clear hsk'
              refine hsk.mono ?_
              clear hsk
              rintro e W4 ⟨rfl, hR4, hM4⟩
              have HA4 := Lib.hid (HA3.out.chg (hR4.sub (fun _ _ hk => Or.inl hk)) (ReS.skip_ok HA3.out.ok) (hM4.mono (fun _ _ h => Or.inl h)) (fun k hk => by have := HS3.out k hk; have := Hb0.out.size; omega))
              have HMV4 := Lib.hid (HMV3.out.trans' hM4 (fun k hk e => by have e : k = rb := e; have := HS3.out _ HA3.out.re.sb; omega))
              have HS4 := Lib.hid (show ∀ k, (S3 k ∨ (W3b.heap.size ≤ k ∧ k < W4.heap.size)) → w.heap.size ≤ k from fun k hk => by have := HMV3.out.size; rcases hk with hk | hk; exact HS3.out k hk; omega)
              have HMs := Lib.hid hM4
              have y0 := hM4.at HX0.out hne3
              have y1 := hM4.at HX1.out hne3
              have y2 := hM4.at HX2.out hne3
              have y3 := hM4.at HX3.out hne3
              have y4 := hM4.at HX4.out hne3
              have y5 := hM4.at HX5.out hne3
              have y6 := hM4.at HX6.out hne3
              have y7 := hM4.at HX7.out hne3
              clear hR4 hM4
              cases sk
              · skip
                go_wp2_with fail
                clear y0 y1 y2 y3 y4 y5 y6 y7
                have hh := reHear_any ⟨45, xn, xd, ⟨xpe, xls⟩, xm, xs, xe⟩ xa xcc true HA4.out.re HA4.out.ok (From W2.heap.size) ((HL3.out.mod HMs.out (fun k hk _ e => by have hk : W2.heap.size ≤ k := hk; have e : k = rb := e; have := HMV2.out.size; have := HA2.out.sl rb HA3.out.re.sb; omega)))
                rw [ReS.hear_down _ _ _ rfl] at hh
                simp only [aV] at hh
                refine hh.mono ?_
                clear hh
                rintro e W5 ⟨rfl, hR5, hM5⟩
                have HA5 := Lib.hid (HA4.out.chg hR5 HA4.out.ok hM5 (fun k hk => by have := HS4.out k hk; have := Hb0.out.size; omega))
                have HMV5 := Lib.hid (HMV4.out.trans' hM5 (fun k hk e => by rcases e with e | e; (have := HS4.out _ HA4.out.re.sb; omega); (have := HS4.out _ HA4.out.re.st; omega)))
                have HS5 := Lib.hid (show ∀ k, ((S3 k ∨ (W3b.heap.size ≤ k ∧ k < W4.heap.size)) ∨ (W4.heap.size ≤ k ∧ k < W5.heap.size)) → w.heap.size ≤ k from fun k hk => by have := HMV4.out.size; rcases hk with hk | hk; exact HS4.out k hk; omega)
                clear hR5 hM5 HA4 HS4 HMV4
                have HA4 := HA5
                have HS4 := HS5
                have HMV4 := HMV5
                go_wp2_with fail
                go_roundg (fates.length + 60 - (i + 1))
                case measure => omega
                case rel =>
                  exact ⟨i + 1, _, _, rfl, by omega, by go_num, (HA4.out.more (by omega)).cast Hst4.out, HV3.out, HS4.out, HMV4.out⟩
              · skip
                go_wp2_with fail
                go_roundg (fates.length + 60 - (i + 1))
                case measure => omega
                case rel =>
                  exact ⟨i + 1, _, _, rfl, by omega, by go_num, (HA4.out.more (by omega)).cast Hst4.out, HV3.out, HS4.out, HMV4.out⟩
            · have e45 : (xc == 45) = false := by simpa using h45
              have Hst4 := Lib.hid (hst1.trans (by rw [if_neg (fun e => h45 e.2)]))
              clear hst1 h45
              go_wp2_with fail
              rw [← HW3.out]
              have hh := reHear_any ⟨xc, xn, xd, ⟨xpe, xls⟩, xm, xs, xe⟩ xa xcc true HA3.out.re HA3.out.ok _ HL3.out
              simp only [aV] at hh
              refine hh.mono ?_
              clear hh
              rintro e W4 ⟨rfl, hR4, hM4⟩
              have HA4 := Lib.hid (HA3.out.chg hR4 (ReS.hear_ok HA3.out.ok _ _) hM4 (fun k hk => by have := HS3.out k hk; have := Hb0.out.size; omega))
              have HMV4 := Lib.hid (HMV3.out.trans' hM4 (fun k hk e => by rcases e with e | e; (have := HS3.out _ HA3.out.re.sb; omega); (have := HS3.out _ HA3.out.re.st; omega)))
              have HS4 := Lib.hid (show ∀ k, (S3 k ∨ (W3b.heap.size ≤ k ∧ k < W4.heap.size)) → w.heap.size ≤ k from fun k hk => by have := HMV3.out.size; rcases hk with hk | hk; exact HS3.out k hk; omega)
              clear hR4 hM4
              go_wp2_with fail
              go_roundg (fates.length + 60 - (i + 1))
              case measure => omega
              case rel =>
                exact ⟨i + 1, _, _, rfl, by omega, by go_num, (HA4.out.more (by omega)).cast Hst4.out, HV3.out, HS4.out, HMV4.out⟩
    · have hie : i = fates.length + 60 := by omega
      have hie' : (fates.length : Int) + 60 ≤ i := by omega
      have Hst := Lib.hid (show stC hd q fates (fates.length + 60) = stC hd q fates i by rw [hie])
      clear hi3 hie i2
      have hov := reOver_any hA.re
      rw [show (stC hd q fates i).2 = (stC hd q fates (fates.length + 60)).2 from by rw [Hst.out]] at hov
      have HA := Lib.hid hA
      clear hA
      obtain ⟨oe, hoe⟩ : ∃ oe, oe = (stC hd q fates (fates.length + 60)).2.overE := ⟨_, rfl⟩
      obtain ⟨ob, hob⟩ : ∃ ob, ob = decide ((stC hd q fates (fates.length + 60)).2.at = 4) := ⟨_, rfl⟩
      rw [← hoe, ← hob] at hov
      have Hoe := Lib.hid hoe
      have Hob := Lib.hid hob
      clear hoe hob
      go_wp2_with fail
      refine hov.mono ?_
      clear hov
      rintro e w6 ⟨rfl, hM6⟩
      have HF := Lib.hid (HA.out.hd.mod hM6 (fun _ _ => id) (fun _ _ => id))
      have HM6 := Lib.hid hM6
      clear hM6
      go_wp2_with fail
      refine bodyPost_ret (v := .tuple #[.int .i64 oe, .bool ob]) (by simp only [results, Tryz.results30]; go_simp) rfl ?_
      have hMe : Mod V w w6 := HMV.out.trans (mod_none HM6.out)
      unfold Ch18Post
      rw [← Hoe.out, ← Hob.out, Hst.out]
      exact ⟨rfl, HF.out.resub HV.out Hlt0.out Hold.out Hb0.out.size hMe.size (by omega), hMe⟩
end Go.Proofs.YtghdhhbpbmhooaaGreat
/- the log's tail by a hand, whatever it is; a record that is put by a hand -/
namespace Go.Proofs.YtghdhhbpbmhooaaGreat
open Go.RowKit Esch

theorem TaS.ask_2 (s : TaS) : s.ask.2 = !decide (s.at = 2) := by
  unfold TaS.ask
  by_cases h4 : s.at = 2
  · rw [if_pos h4]; simp [h4]
  rw [if_neg h4]
  simp only [h4, decide_false, Bool.not_false]
  repeat' split
  all_goals rfl
theorem TaS.ask_data (s : TaS) : s.ask.1.data = ⟨#[]⟩ := by
  unfold TaS.ask
  repeat' split
  all_goals rfl
theorem TaS.ask_p (s : TaS) : s.ask.1.p = Esch.p0 := by
  unfold TaS.ask
  repeat' split
  all_goals rfl
/-- a hand and a tail side by side -/
structure Ta1 (w0 : World) (c hb tb : Nat) (V S : Nat → Prop) (s : HdS × TaS) (w : World) : Prop where
  hd : Hd1 w0 c hb V s.1 w
  re : TailAt w tb S s.2
  sl : ∀ k, S k → k < w.heap.size
  ap : ∀ k, V k → ¬ S k
section
variable {w0 w : World} {c hb tb : Nat} {V S : Nat → Prop} {s : HdS × TaS}
theorem Ta1.mod {F : Nat → Prop} {w' : World} (h : Ta1 w0 c hb tb V S s w) (hM : Mod F w w') (hF : ∀ k, V k → ¬ F k) (hS : ∀ k, S k → ¬ F k) (hw : ∀ k, k < w0.heap.size → ¬ F k) : Ta1 w0 c hb tb V S s w' :=
  ⟨h.hd.mod hM hF hw, h.re.mod hM (fun k hk _ => hS k hk), fun k hk => Nat.lt_of_lt_of_le (h.sl k hk) hM.size, h.ap⟩
theorem Ta1.below' {w' : World} (h : Ta1 w0 c hb tb V S s w) (hB : Below w.heap.size w w') : Ta1 w0 c hb tb V S s w' := h.mod (F := none') (Mod.of_below hB) (fun _ _ => id) (fun _ _ => id) (fun _ _ => id)
theorem Ta1.more (h : Ta1 w0 c hb tb V S s w) {c' : Nat} (hc : c ≤ c') : Ta1 w0 c' hb tb V S s w := ⟨h.hd.more hc, h.re, h.sl, h.ap⟩
theorem Ta1.cast {s' : HdS × TaS} (h : Ta1 w0 c hb tb V S s w) (e : s' = s) : Ta1 w0 c hb tb V S s' w := by rw [e]; exact h
theorem Ta1.hand {w' : World} {c' : Nat} {hd' : HdS} (h : Ta1 w0 c hb tb V S s w) (hH : Hd1 w0 c' hb (grow V w w') hd' w') (hM : Mod V w w') : Ta1 w0 c' hb tb (grow V w w') S (hd', s.2) w' := by
  have hz := hM.size
  refine ⟨hH, h.re.mod hM (fun k hk _ e => h.ap k e hk), fun k hk => Nat.lt_of_lt_of_le (h.sl k hk) hz, fun k hk hS => ?_⟩
  rcases hk with hk | hk
  · exact h.ap k hk hS
  · have := h.sl k hS; omega
theorem Ta1.chg {w' : World} {re' : TaS} (h : Ta1 w0 c hb tb V S s w) (hR : TailAt w' tb (fun k => S k ∨ (w.heap.size ≤ k ∧ k < w'.heap.size)) re') (hM : Mod (· = tb) w w') (hw : ∀ k, S k → w0.heap.size ≤ k) : Ta1 w0 c hb tb V (fun k => S k ∨ (w.heap.size ≤ k ∧ k < w'.heap.size)) (s.1, re') w' := by
  have hz := hM.size
  refine ⟨h.hd.mod hM (fun k hk e => ?_) (fun k hk e => ?_), hR, fun k hk => ?_, fun k hk hS => ?_⟩
  · subst e; exact h.ap k hk h.re.sb
  · subst e; have := hw k h.re.sb; omega
  · rcases hk with hk | hk
    · exact Nat.lt_of_lt_of_le (h.sl k hk) hz
    · exact hk.2
  · rcases hS with hS | hS
    · exact h.ap k hk hS
    · have := h.hd.lt k hk; omega
end
def taTurn (s : HdS × TaS) (f : Int) : HdS × TaS :=
  if s.2.at = 2 then s else ((s.1.ask s.2.ask.1 f).2, s.2.hear (s.1.ask s.2.ask.1 f).1.1 (s.1.ask s.2.ask.1 f).1.2)
def stT (hd : HdS) (q : Proj) (fates : List Int) : Nat → HdS × TaS
  | 0 => (hd, ta0 q)
  | i + 1 => taTurn (stT hd q fates i) (fateF fates i)
theorem stT_stop {hd : HdS} {q : Proj} {fates : List Int} {i : Nat} (h : (stT hd q fates i).2.at = 2) : ∀ j, stT hd q fates (i + j) = stT hd q fates i
  | 0 => rfl
  | j + 1 => by
    show taTurn (stT hd q fates (i + j)) _ = _
    rw [stT_stop h j]
    unfold taTurn
    rw [if_pos h]
def TaRel (w0 : World) (c hb tb : Nat) (V : Nat → Prop) (w : World) (hd : HdS) (q : Proj) (fates : List Int) (g : Nat) (s9 : Value) (wr : World) : Prop :=
  ∃ (i : Nat) (V' S' : Nat → Prop), g = fates.length + 20 - i ∧ i ≤ fates.length + 20 ∧ s9 = .int .i64 i ∧ Ta1 w0 (c + i) hb tb V' S' (stT hd q fates i) wr ∧ (∀ k, V' k → V k ∨ w.heap.size ≤ k) ∧ (∀ k, S' k → w.heap.size ≤ k) ∧ Mod V w wr
def TaV (s : TaS) : Value := if s.at = 2 then .tuple #[.int .i64 s.addr, .int .i64 s.err, .bool true] else .tuple #[.int .i64 0, .int .i64 0, .bool false]
def Ta18Post (w0 : World) (c hb : Nat) (V : Nat → Prop) (w : World) (r : HdS × TaS) (e : Ending) (w' : World) : Prop := e = .returned (TaV r.2) ∧ Hd1 w0 c hb (grow V w w') r.1 w' ∧ Mod V w w'
set_option maxRecDepth 100000 in
set_option maxHeartbeats 4000000 in
theorem see18_any {w0 w : World} {c hb : Nat} {V : Nat → Prop} {hd : HdS} (h : Hd1 w0 c hb V hd w) (hc : c ≤ 100000) (S : Nat → Prop) (q : Proj) (a : Option Addr) (cc : Nat) (hs : Small q.chains) (hl : ListsAt S w a q.chains) (fa : Option Addr) (fates : List Int) (fc : Nat) (hfa : BytesAt w fa fates) (hfl : fates.length ≤ 100)
    (hfV : ∀ b off, fa = some ⟨b, off, none⟩ → 0 < fates.length → ¬ V b) :
    Calls Tryz.prog 36 #[.pointer (some ⟨hb, 0, none⟩), .agg #[.int .i64 q.epoch, .slice a q.chains.length cc], .slice fa fates.length fc] w (Ta18Post w0 (c + fates.length + 20) hb V w (stT hd q fates (fates.length + 20))) := by
  obtain ⟨W0, hW0, hB0, hz0, p0, p1⟩ := oneBox w 24 (.int .i64 q.epoch) (.slice a q.chains.length cc)
  have hnw := tailNew_any S W0 q a cc hs (hl.mod (F := none') (Mod.of_below hB0) (fun _ _ _ => id))
  have HW0 := Lib.hid hW0
  have Hd0 := Lib.hid (h.below' hB0)
  have Hlt0 := Lib.hid h.lt
  have Hold := Lib.hid h.old
  have Hb0 := Lib.hid h.below
  have HFA := Lib.hid hfa
  have HFV := Lib.hid hfV
  have Hfl := Lib.hid hfl
  have hflI : (fates.length : Int) ≤ 100 := by omega
  have HB0 := Lib.hid hB0
  clear hW0 h hl hs hfa hfV hfl hB0
  go_enter Tryz.func36, Tryz.ntmps36
  go_wp2_with fail
  rw [← HW0.out]
  refine hnw.mono ?_
  clear hnw
  rintro e w1 ⟨tb, rfl, hR1, hB1⟩
  have hz1 := hB1.size
  have HA1 := Lib.hid (show Ta1 w0 c hb tb V (fun k => w.heap.size ≤ k ∧ k < w1.heap.size) (hd, ta0 q) w1 from ⟨Hd0.out.below' hB1, hR1.sub (fun k hk h => ⟨by have h : W0.heap.size ≤ k := h; omega, hk⟩), fun k hk => hk.2, fun k hk e => by have := Hlt0.out k hk; omega⟩)
  have HMW1 := Lib.hid (Mod.of_below (F := V) (HB0.out.trans (hB1.mono HB0.out.size)))
  clear hR1 hB1 p0 p1 hz0 hz1
  go_wp2_with fail
  go_loopg [10] (fates.length + 20) (fun g s9 wr => TaRel w0 c hb tb V w hd q fates g s9 wr)
  case atStart =>
    exact ⟨0, _, _, rfl, by omega, rfl, HA1.out, fun k hk => Or.inl hk, fun k hk => hk.1, HMW1.out⟩
  case round =>
    clear HA1 HMW1
    obtain ⟨i, V', S3, rfl, hi, rfl, hA, hV, hS, hMV⟩ := hrel
    have HV := Lib.hid hV
    have HS3 := Lib.hid hS
    have HMV := Lib.hid hMV
    clear hV hMV hS
    have i1 : (0 : Int) ≤ i := by omega
    have i2 : (i : Int) ≤ fates.length + 20 := by omega
    by_cases hi3 : i < fates.length + 20
    · have i0 : (i : Int) < fates.length + 20 := by omega
      by_cases h5 : (stT hd q fates i).2.at = 2
      · have hst : stT hd q fates (fates.length + 20) = stT hd q fates i := by
          have := stT_stop h5 (fates.length + 20 - i)
          rwa [show i + (fates.length + 20 - i) = fates.length + 20 by omega] at this
        have Hst := Lib.hid hst
        have hask := tailAsk_any hA.re
        rw [show (stT hd q fates i).2.ask = (qz, false) from if_pos h5] at hask
        have HA := Lib.hid hA
        clear h5 hst hA
        go_wp2_with fail
        refine hask.mono ?_
        clear hask
        rintro e W1 ⟨rfl, hB1⟩
        have hA1 := HA.out.below' hB1
        have HB1 := Lib.hid hB1
        clear HA hB1
        simp only [qV, Esch.p0, List.length_nil]
        go_wp2_with fail
        obtain ⟨W2, hW2, hB2, hz2, -⟩ := ask_box W1 (.int .i64 0) (.int .i64 0) (.int .i64 0) (.int .i64 0) (.int .i64 0) (.int .i64 0) (.string ⟨#[]⟩) (.int .i64 0) (.slice none 0 0)
        rw [← hW2]
        have hA := hA1.below' hB2
        have HMV2 := Lib.hid ((HMV.out.trans (Mod.of_below HB1.out)).trans (Mod.of_below hB2))
        clear hW2 hz2 hB2 hA1 i0 i2 HMV HB1
        have HMV := HMV2
        have hov := tailOver_any hA.re
        rw [show (stT hd q fates i).2 = (stT hd q fates (fates.length + 20)).2 from by rw [Hst.out]] at hov
        have HA := Lib.hid hA
        clear hA
        obtain ⟨rk, re, rb, hrr⟩ : ∃ rk re rb, TaV (stT hd q fates (fates.length + 20)).2 = .tuple #[.int .i64 rk, .int .i64 re, .bool rb] := by
          unfold TaV
          by_cases e : (stT hd q fates (fates.length + 20)).2.at = 2
          · rw [if_pos e]; exact ⟨_, _, _, rfl⟩
          · rw [if_neg e]; exact ⟨_, _, _, rfl⟩
        rw [show (if (stT hd q fates (fates.length + 20)).2.at = 2 then Value.tuple #[.int .i64 (stT hd q fates (fates.length + 20)).2.addr, .int .i64 (stT hd q fates (fates.length + 20)).2.err, .bool true] else .tuple #[.int .i64 0, .int .i64 0, .bool false]) = .tuple #[.int .i64 rk, .int .i64 re, .bool rb] from hrr] at hov
        have Hrr := Lib.hid hrr
        clear hrr
        go_wp2_with fail
        refine hov.mono ?_
        clear hov
        rintro e w6 ⟨rfl, hM6⟩
        have HF := Lib.hid (HA.out.hd.mod hM6 (fun _ _ => id) (fun _ _ => id))
        have HM6 := Lib.hid hM6
        clear hM6
        go_wp2_with fail
        refine bodyPost_ret (v := .tuple #[.int .i64 rk, .int .i64 re, .bool rb]) (by simp only [results, Tryz.results36]; go_simp) rfl ?_
        have hMe : Mod V w w6 := HMV.out.trans (mod_none HM6.out)
        unfold Ta18Post
        rw [Hrr.out, Hst.out]
        exact ⟨rfl, HF.out.resub HV.out Hlt0.out Hold.out Hb0.out.size hMe.size (by omega), hMe⟩
      · have H5 := Lib.hid h5
        have hlt6 := Hfl.out
        clear h5
        by_cases hff : i < fates.length
        · obtain ⟨fb, foff, rfl, hfb, hfc⟩ := HFA.out (by omega)
          obtain ⟨hfv, hf0, hf1⟩ := hfc i hff
          have hfvr := HMV.out.at hfv (HFV.out fb foff rfl (by omega))
          have hff' : decide (i < fates.length) = true := by simpa using hff
          obtain ⟨fv, hfv'⟩ : ∃ fv, fv = fates.getD i 0 := ⟨_, rfl⟩
          have hfq : fateF fates i = fv % 4 := by unfold fateF; rw [if_pos hff, hfv']
          rw [← hfv'] at hfvr hf0 hf1
          have Hfv := Lib.hid hfv'
          have Hfq := Lib.hid hfq
          have n0 : (i : Int) < fates.length := by omega
          have hfbr := cell_lt hfvr
          clear hfv hfc hfv' hfq hff
          have HA := Lib.hid hA
          obtain ⟨⟨⟨qk, qu, qe, qp, qs, qn, qd, qpp⟩, qb⟩, hr⟩ : ∃ r, r = (stT hd q fates i).2.ask := ⟨_, rfl⟩
          have hask := tailAsk_any hA.re
          have hqb := (stT hd q fates i).2.ask_2
          have hqd := (stT hd q fates i).2.ask_data
          have hqp := (stT hd q fates i).2.ask_p
          rw [← hr] at hask hqb hqd hqp
          simp only [decide_eq_false H5.out, Bool.not_false] at hqb hqd hqp
          subst hqb hqd hqp
          have Hr := Lib.hid hr
          clear hr hA
          go_wp2_with fail
          refine hask.mono ?_
          clear hask
          rintro e W1 ⟨rfl, hB1⟩
          have hA1 := HA.out.below' hB1
          have HB1 := Lib.hid hB1
          obtain ⟨hfv1, hfl1⟩ := cell_both' HB1.out hfvr hfbr
          simp only [qV, Esch.p0, List.length_nil]
          clear hB1
          go_wp2_with fail
          obtain ⟨W2, hW2, hB2, hz2, b0, b1, b2, b3, b4, b5, b6, b7, b8⟩ := ask_box W1 (.int .i64 qk) (.int .i64 qu) (.int .i64 qe) (.int .i64 qp) (.int .i64 qs) (.int .i64 qn) (.string ⟨#[]⟩) (.int .i64 0) (.slice none 0 0)
          rw [← hW2]
          have hA2 := hA1.below' hB2
          have HB12 := Lib.hid (HB1.out.trans (hB2.mono HB1.out.size))
          have hc := hd1_hand hA2.hd (by omega) ⟨qk, qu, qe, qp, qs, qn, ⟨#[]⟩, Esch.p0⟩ rfl (by decide : (ByteArray.mk #[]).size ≤ 9223372036854775807) (fv % 4)
          obtain ⟨⟨⟨x, xb⟩, hd'⟩, hxr⟩ : ∃ r, r = (stT hd q fates i).1.ask ⟨qk, qu, qe, qp, qs, qn, ⟨#[]⟩, Esch.p0⟩ (fv % 4) := ⟨_, rfl⟩
          rw [← hxr] at hc
          simp only [qV, Esch.p0, List.length_nil] at hc
          have Hxr := Lib.hid hxr
          have HA2 := Lib.hid hA2
          clear hW2 hz2 hB2 hA1 hA2 hxr
          go_wp2_with fail
          refine hc.mono ?_
          clear hc b0 b1 b2 b3 b4 b5 b6 b7 b8
          rintro e W3 ⟨xa, xcc, rfl, hl3, hD3, hM3⟩
          have hA3 := HA2.out.hand hD3 hM3
          have HMV2 := Lib.hid (HMV.out.trans (Mod.of_below HB12.out))
          have hVV : ∀ k, k < w.heap.size → V' k → V k := fun k hk h => (HV.out k h).resolve_right (by omega)
          have HMV3 := Lib.hid (HMV2.out.trans' hM3 hVV)
          have HV3 := Lib.hid (show ∀ k, grow V' W2 W3 k → V k ∨ w.heap.size ≤ k from fun k hk => by
            have := HMV2.out.size
            rcases hk with hk | hk
            · exact HV.out k hk
            · exact Or.inr (by omega))
          have hh := tailHear_any (x := x) (a := xa) (c := xcc) (b := xb) hA3.re _ hl3
          have HA3 := Lib.hid hA3
          clear hl3 hD3 hM3 hA3 hVV
          have hst1 : stT hd q fates (i + 1) = (hd', (stT hd q fates i).2.hear x xb) := by
            show taTurn (stT hd q fates i) (fateF fates i) = _
            rw [Hfq.out]
            unfold taTurn
            rw [if_neg H5.out, ← Hr.out, ← Hxr.out]
          have Hst4 := Lib.hid hst1
          clear hst1
          obtain ⟨xc, xn, xd, ⟨xpe, xls⟩, xm, xs, xe⟩ := x
          simp only [aV] at hh ⊢
          go_wp2_with fail
          refine hh.mono ?_
          clear hh
          rintro e W4 ⟨rfl, hR4, hM4⟩
          have HA4 := Lib.hid (HA3.out.chg hR4 hM4 (fun k hk => by have := HS3.out k hk; have := Hb0.out.size; omega))
          have HMV4 := Lib.hid (HMV3.out.trans' hM4 (fun k hk e => by have e : k = tb := e; have := HS3.out _ HA3.out.re.sb; omega))
          have HS4 := Lib.hid (show ∀ k, (S3 k ∨ (W3.heap.size ≤ k ∧ k < W4.heap.size)) → w.heap.size ≤ k from fun k hk => by have := HMV3.out.size; rcases hk with hk | hk; exact HS3.out k hk; omega)
          clear hR4 hM4
          go_wp2_with fail
          go_roundg (fates.length + 20 - (i + 1))
          case measure => omega
          case rel =>
            exact ⟨i + 1, _, _, rfl, by omega, by go_num, (HA4.out.more (by omega)).cast Hst4.out, HV3.out, HS4.out, HMV4.out⟩
        · have hff2 : fates.length ≤ i := by omega
          have hff' : decide (i < fates.length) = false := by simpa using hff2
          have hfq : fateF fates i = 0 := if_neg hff
          have Hfq := Lib.hid hfq
          clear hfq hff hff2
          have HA := Lib.hid hA
          obtain ⟨⟨⟨qk, qu, qe, qp, qs, qn, qd, qpp⟩, qb⟩, hr⟩ : ∃ r, r = (stT hd q fates i).2.ask := ⟨_, rfl⟩
          have hask := tailAsk_any hA.re
          have hqb := (stT hd q fates i).2.ask_2
          have hqd := (stT hd q fates i).2.ask_data
          have hqp := (stT hd q fates i).2.ask_p
          rw [← hr] at hask hqb hqd hqp
          simp only [decide_eq_false H5.out, Bool.not_false] at hqb hqd hqp
          subst hqb hqd hqp
          have Hr := Lib.hid hr
          clear hr hA
          go_wp2_with fail
          refine hask.mono ?_
          clear hask
          rintro e W1 ⟨rfl, hB1⟩
          have hA1 := HA.out.below' hB1
          have HB1 := Lib.hid hB1
          skip
          simp only [qV, Esch.p0, List.length_nil]
          clear hB1
          go_wp2_with fail
          obtain ⟨W2, hW2, hB2, hz2, b0, b1, b2, b3, b4, b5, b6, b7, b8⟩ := ask_box W1 (.int .i64 qk) (.int .i64 qu) (.int .i64 qe) (.int .i64 qp) (.int .i64 qs) (.int .i64 qn) (.string ⟨#[]⟩) (.int .i64 0) (.slice none 0 0)
          rw [← hW2]
          have hA2 := hA1.below' hB2
          have HB12 := Lib.hid (HB1.out.trans (hB2.mono HB1.out.size))
          have hc := hd1_hand hA2.hd (by omega) ⟨qk, qu, qe, qp, qs, qn, ⟨#[]⟩, Esch.p0⟩ rfl (by decide : (ByteArray.mk #[]).size ≤ 9223372036854775807) 0
          obtain ⟨⟨⟨x, xb⟩, hd'⟩, hxr⟩ : ∃ r, r = (stT hd q fates i).1.ask ⟨qk, qu, qe, qp, qs, qn, ⟨#[]⟩, Esch.p0⟩ 0 := ⟨_, rfl⟩
          rw [← hxr] at hc
          simp only [qV, Esch.p0, List.length_nil] at hc
          have Hxr := Lib.hid hxr
          have HA2 := Lib.hid hA2
          clear hW2 hz2 hB2 hA1 hA2 hxr
          go_wp2_with fail
          refine hc.mono ?_
          clear hc b0 b1 b2 b3 b4 b5 b6 b7 b8
          rintro e W3 ⟨xa, xcc, rfl, hl3, hD3, hM3⟩
          have hA3 := HA2.out.hand hD3 hM3
          have HMV2 := Lib.hid (HMV.out.trans (Mod.of_below HB12.out))
          have hVV : ∀ k, k < w.heap.size → V' k → V k := fun k hk h => (HV.out k h).resolve_right (by omega)
          have HMV3 := Lib.hid (HMV2.out.trans' hM3 hVV)
          have HV3 := Lib.hid (show ∀ k, grow V' W2 W3 k → V k ∨ w.heap.size ≤ k from fun k hk => by
            have := HMV2.out.size
            rcases hk with hk | hk
            · exact HV.out k hk
            · exact Or.inr (by omega))
          have hh := tailHear_any (x := x) (a := xa) (c := xcc) (b := xb) hA3.re _ hl3
          have HA3 := Lib.hid hA3
          clear hl3 hD3 hM3 hA3 hVV
          have hst1 : stT hd q fates (i + 1) = (hd', (stT hd q fates i).2.hear x xb) := by
            show taTurn (stT hd q fates i) (fateF fates i) = _
            rw [Hfq.out]
            unfold taTurn
            rw [if_neg H5.out, ← Hr.out, ← Hxr.out]
          have Hst4 := Lib.hid hst1
          clear hst1
          obtain ⟨xc, xn, xd, ⟨xpe, xls⟩, xm, xs, xe⟩ := x
          simp only [aV] at hh ⊢
          go_wp2_with fail
          refine hh.mono ?_
          clear hh
          rintro e W4 ⟨rfl, hR4, hM4⟩
          have HA4 := Lib.hid (HA3.out.chg hR4 hM4 (fun k hk => by have := HS3.out k hk; have := Hb0.out.size; omega))
          have HMV4 := Lib.hid (HMV3.out.trans' hM4 (fun k hk e => by have e : k = tb := e; have := HS3.out _ HA3.out.re.sb; omega))
          have HS4 := Lib.hid (show ∀ k, (S3 k ∨ (W3.heap.size ≤ k ∧ k < W4.heap.size)) → w.heap.size ≤ k from fun k hk => by have := HMV3.out.size; rcases hk with hk | hk; exact HS3.out k hk; omega)
          clear hR4 hM4
          go_wp2_with fail
          go_roundg (fates.length + 20 - (i + 1))
          case measure => omega
          case rel =>
            exact ⟨i + 1, _, _, rfl, by omega, by go_num, (HA4.out.more (by omega)).cast Hst4.out, HV3.out, HS4.out, HMV4.out⟩
    · have hie : i = fates.length + 20 := by omega
      have hie' : (fates.length : Int) + 20 ≤ i := by omega
      have Hst := Lib.hid (show stT hd q fates (fates.length + 20) = stT hd q fates i by rw [hie])
      clear hi3 hie i2
      have hov := tailOver_any hA.re
      rw [show (stT hd q fates i).2 = (stT hd q fates (fates.length + 20)).2 from by rw [Hst.out]] at hov
      have HA := Lib.hid hA
      clear hA
      obtain ⟨rk, re, rb, hrr⟩ : ∃ rk re rb, TaV (stT hd q fates (fates.length + 20)).2 = .tuple #[.int .i64 rk, .int .i64 re, .bool rb] := by
        unfold TaV
        by_cases e : (stT hd q fates (fates.length + 20)).2.at = 2
        · rw [if_pos e]; exact ⟨_, _, _, rfl⟩
        · rw [if_neg e]; exact ⟨_, _, _, rfl⟩
      rw [show (if (stT hd q fates (fates.length + 20)).2.at = 2 then Value.tuple #[.int .i64 (stT hd q fates (fates.length + 20)).2.addr, .int .i64 (stT hd q fates (fates.length + 20)).2.err, .bool true] else .tuple #[.int .i64 0, .int .i64 0, .bool false]) = .tuple #[.int .i64 rk, .int .i64 re, .bool rb] from hrr] at hov
      have Hrr := Lib.hid hrr
      clear hrr
      go_wp2_with fail
      refine hov.mono ?_
      clear hov
      rintro e w6 ⟨rfl, hM6⟩
      have HF := Lib.hid (HA.out.hd.mod hM6 (fun _ _ => id) (fun _ _ => id))
      have HM6 := Lib.hid hM6
      clear hM6
      go_wp2_with fail
      refine bodyPost_ret (v := .tuple #[.int .i64 rk, .int .i64 re, .bool rb]) (by simp only [results, Tryz.results36]; go_simp) rfl ?_
      have hMe : Mod V w w6 := HMV.out.trans (mod_none HM6.out)
      unfold Ta18Post
      rw [Hrr.out, Hst.out]
      exact ⟨rfl, HF.out.resub HV.out Hlt0.out Hold.out Hb0.out.size hMe.size (by omega), hMe⟩
/-- a record that is put by a hand -/
def puTurn (s : HdS × ApS) : HdS × ApS := if s.2.at = 5 then s else apTurn s 0
def stP (hd : HdS) (q : Proj) (rec : ByteArray) : Nat → HdS × ApS
  | 0 => (hd, ap0 q rec)
  | i + 1 => puTurn (stP hd q rec i)
theorem stP_stop {hd : HdS} {q : Proj} {rec : ByteArray} {i : Nat} (h : (stP hd q rec i).2.at = 5) : ∀ j, stP hd q rec (i + j) = stP hd q rec i
  | 0 => rfl
  | j + 1 => by
    show puTurn (stP hd q rec (i + j)) = _
    rw [stP_stop h j]
    unfold puTurn
    rw [if_pos h]
def putN (s : ApS) : Int := if s.at = 5 ∧ s.err = 0 then s.addr else -1
def Pu18Post (w0 : World) (c hb : Nat) (V : Nat → Prop) (w : World) (r : HdS × ApS) (e : Ending) (w' : World) : Prop := e = .returned (.int .i64 (putN r.2)) ∧ Hd1 w0 c hb (grow V w w') r.1 w' ∧ Mod V w w'
theorem stP_txt (hd : HdS) (q : Proj) (rec : ByteArray) : ∀ i, (stP hd q rec i).2.txt = rec
  | 0 => by
    show (ap0 q rec).txt = rec
    unfold ap0
    repeat' split
    all_goals rfl
  | i + 1 => by
    show (puTurn (stP hd q rec i)).2.txt = rec
    unfold puTurn
    by_cases e : (stP hd q rec i).2.at = 5
    · rw [if_pos e]; exact stP_txt hd q rec i
    · rw [if_neg e]; exact (ApS.hear_txt _ _ _).trans (stP_txt hd q rec i)
def PuRel (w0 : World) (c hb ab : Nat) (V : Nat → Prop) (w : World) (hd : HdS) (q : Proj) (rec : ByteArray) (g : Nat) (s9 : Value) (wr : World) : Prop :=
  ∃ (i : Nat) (V' : Nat → Prop), g = 60 - i ∧ i ≤ 60 ∧ s9 = .int .i64 i ∧ Ap1 w0 (c + i) hb ab V' (stP hd q rec i).1 (stP hd q rec i).2 wr ∧ (∀ k, V' k → V k ∨ w.heap.size ≤ k) ∧ Mod V w wr
theorem Ap1.toHd {w0 w : World} {c hb ab : Nat} {V : Nat → Prop} {hd : HdS} {ap : ApS} (h : Ap1 w0 c hb ab V hd ap w) : Hd1 w0 c hb V hd w := by
  obtain ⟨⟨U, S, T, hH, hT, hA, hs, hu, hv⟩, hk, hl, ho, hB⟩ := h
  exact ⟨⟨U, T, hH, hT, fun k hk => hv k (Or.inl hk)⟩, hl, ho, hB⟩
theorem ap1_newH {w0 w : World} {c hb : Nat} {V : Nat → Prop} {hd : HdS} (h : Hd1 w0 c hb V hd w) (S : Nat → Prop) (q : Proj) (rec : ByteArray) (a : Option Addr) (cc : Nat) (hs : Small q.chains) (hl : ListsAt S w a q.chains) :
    Calls Tryz.prog 33 #[.agg #[.int .i64 q.epoch, .slice a q.chains.length cc], .string rec] w fun e w' => ∃ ab, e = .returned (.pointer (some ⟨ab, 0, none⟩)) ∧ Ap1 w0 c hb ab (grow V w w') hd (ap0 q rec) w' ∧ Below w.heap.size w w' := by
  obtain ⟨⟨U, T, hH, hT, hv⟩, hl', ho, hB⟩ := h
  refine (ap1_new hH hT (fun k hk => ho k (hv k hk)) hB S q rec a cc hs hl).mono ?_
  rintro e w' ⟨ab, rfl, ⟨⟨U', S', T', g1, g2, g3, g4, g5, g6⟩, g7, g8, g9, g10⟩, hB'⟩
  have hz := hB'.size
  have hz0 := hB.size
  refine ⟨ab, rfl, ⟨⟨U', S', T', g1, g2, g3, g4, g5, fun k hk => (g6 k hk).imp (hv k) id⟩, g7, fun k hk => ?_, fun k hk => ?_, g10⟩, hB'⟩
  · rcases hk with hk | hk
    · have := hl' k hk; omega
    · exact hk.2
  · rcases hk with hk | hk
    · exact ho k hk
    · omega
set_option maxRecDepth 100000 in
set_option maxHeartbeats 4000000 in
theorem put18_any {w0 w : World} {c hb : Nat} {V : Nat → Prop} {hd : HdS} (h : Hd1 w0 c hb V hd w) (hc : c ≤ 100000) (S : Nat → Prop) (q : Proj) (rec : ByteArray) (a : Option Addr) (cc : Nat) (hs : Small q.chains) (hl : ListsAt S w a q.chains) (hrec : rec.size ≤ 9223372036854775807) :
    Calls Tryz.prog 39 #[.pointer (some ⟨hb, 0, none⟩), .agg #[.int .i64 q.epoch, .slice a q.chains.length cc], .string rec] w (Pu18Post w0 (c + 60) hb V w (stP hd q rec 60)) := by
  obtain ⟨W0, hW0, hB0, hz0, p0, p1⟩ := oneBox w 24 (.int .i64 q.epoch) (.slice a q.chains.length cc)
  have hnw := ap1_newH (h.below' hB0) S q rec a cc hs (hl.mod (F := none') (Mod.of_below hB0) (fun _ _ _ => id))
  have HW0 := Lib.hid hW0
  have Hlt0 := Lib.hid h.lt
  have Hold := Lib.hid h.old
  have Hb0 := Lib.hid h.below
  have Hrec := Lib.hid hrec
  have HB0 := Lib.hid hB0
  clear hW0 h hl hs hB0 hrec
  go_enter Tryz.func39, Tryz.ntmps39
  go_wp2_with fail
  rw [← HW0.out]
  refine hnw.mono ?_
  clear hnw
  rintro e w1 ⟨ab, rfl, hA1, hB1⟩
  have HA1 := Lib.hid hA1
  have HMW1 := Lib.hid (Mod.of_below (F := V) (HB0.out.trans (hB1.mono HB0.out.size)))
  clear hA1 hB1 p0 p1 hz0
  go_wp2_with fail
  go_loopg [8] 60 (fun g s9 wr => PuRel w0 c hb ab V w hd q rec g s9 wr)
  case atStart =>
    exact ⟨0, _, rfl, by omega, rfl, HA1.out, fun k hk => by
      rcases hk with hk | hk
      · exact Or.inl hk
      · exact Or.inr (by have := HB0.out.size; omega), HMW1.out⟩
  case round =>
    clear HA1 HMW1
    obtain ⟨i, V', rfl, hi, rfl, hA, hV, hMV⟩ := hrel
    have HV := Lib.hid hV
    have HMV := Lib.hid hMV
    clear hV hMV
    have i1 : (0 : Int) ≤ i := by omega
    have i2 : (i : Int) ≤ 60 := by omega
    by_cases hi3 : i < 60
    · have i0 : (i : Int) < 60 := by omega
      by_cases h5 : (stP hd q rec i).2.at = 5
      · have hst : stP hd q rec 60 = stP hd q rec i := by
          have := stP_stop h5 (60 - i)
          rwa [show i + (60 - i) = 60 by omega] at this
        have Hst := Lib.hid hst
        have hask := ap1_ask hA
        rw [show (stP hd q rec i).2.ask = (qz, false) from by
          unfold ApS.ask
          rw [if_pos h5]] at hask
        have HA := Lib.hid hA
        clear h5 hst hA
        go_wp2_with fail
        refine hask.mono ?_
        clear hask
        rintro e W1 ⟨rfl, hB1⟩
        have hA1 := HA.out.below' hB1
        have HB1 := Lib.hid hB1
        clear HA hB1
        simp only [qV, Esch.p0, List.length_nil]
        go_wp2_with fail
        obtain ⟨W2, hW2, hB2, hz2, -⟩ := ask_box W1 (.int .i64 0) (.int .i64 0) (.int .i64 0) (.int .i64 0) (.int .i64 0) (.int .i64 0) (.string ⟨#[]⟩) (.int .i64 0) (.slice none 0 0)
        rw [← hW2]
        have hA := hA1.below' hB2
        have HMV2 := Lib.hid ((HMV.out.trans (Mod.of_below HB1.out)).trans (Mod.of_below hB2))
        clear hW2 hz2 hB2 hA1 i0 i2 HMV HB1
        have HMV := HMV2
        have hov := ap1_over hA
        rw [show (stP hd q rec i).2 = (stP hd q rec 60).2 from by rw [Hst.out]] at hov
        have HA := Lib.hid hA
        clear hA
        obtain ⟨r, hr⟩ : ∃ r, r = (stP hd q rec 60).2 := ⟨_, rfl⟩
        rw [← hr] at hov
        have Hr := Lib.hid hr
        clear hr
        unfold OverV at hov
        by_cases hat : r.at = 5
        · rw [if_pos hat] at hov
          by_cases her : r.err = 0
          · rw [her] at hov
            have Hp := Lib.hid (show putN r = r.addr from if_pos ⟨hat, her⟩)
            clear hat her
            go_wp2_with fail
            refine hov.mono ?_
            clear hov
            rintro e w6 ⟨rfl, hM6⟩
            have HF := Lib.hid (HA.out.toHd.mod hM6 (fun _ _ => id) (fun _ _ => id))
            have HM6 := Lib.hid hM6
            clear hM6
            go_wp2_with fail
            go_ret
            have hMe : Mod V w w6 := HMV.out.trans (mod_none HM6.out)
            unfold Pu18Post
            rw [← Hr.out, Hp.out, Hst.out]
            exact ⟨rfl, HF.out.resub HV.out Hlt0.out Hold.out Hb0.out.size hMe.size (by omega), hMe⟩
          · have her' : (r.err != 0) = true := by simpa using her
            have Hp := Lib.hid (show putN r = -1 from if_neg (fun e => her e.2))
            clear hat her
            go_wp2_with fail
            refine hov.mono ?_
            clear hov
            rintro e w6 ⟨rfl, hM6⟩
            have HF := Lib.hid (HA.out.toHd.mod hM6 (fun _ _ => id) (fun _ _ => id))
            have HM6 := Lib.hid hM6
            clear hM6
            go_wp2_with fail
            go_ret
            have hMe : Mod V w w6 := HMV.out.trans (mod_none HM6.out)
            unfold Pu18Post
            rw [← Hr.out, Hp.out, Hst.out]
            exact ⟨rfl, HF.out.resub HV.out Hlt0.out Hold.out Hb0.out.size hMe.size (by omega), hMe⟩
        · rw [if_neg hat] at hov
          have Hp := Lib.hid (show putN r = -1 from if_neg (fun e => hat e.1))
          clear hat
          go_wp2_with fail
          refine hov.mono ?_
          clear hov
          rintro e w6 ⟨rfl, hM6⟩
          have HF := Lib.hid (HA.out.toHd.mod hM6 (fun _ _ => id) (fun _ _ => id))
          have HM6 := Lib.hid hM6
          clear hM6
          go_wp2_with fail
          go_ret
          have hMe : Mod V w w6 := HMV.out.trans (mod_none HM6.out)
          unfold Pu18Post
          rw [← Hr.out, Hp.out, Hst.out]
          exact ⟨rfl, HF.out.resub HV.out Hlt0.out Hold.out Hb0.out.size hMe.size (by omega), hMe⟩
      · have H5 := Lib.hid h5
        obtain ⟨⟨⟨qk, qu, qe, qp, qs, qn, qd, qpp⟩, qb⟩, hr⟩ : ∃ r, r = (stP hd q rec i).2.ask := ⟨_, rfl⟩
        have hask := ap1_ask hA
        have hqb := (stP hd q rec i).2.ask_2
        have hqd := ApS.ask_data (s := (stP hd q rec i).2) (by rw [stP_txt]; exact Hrec.out)
        have hqp := (stP hd q rec i).2.ask_p
        rw [← hr] at hask hqb hqd hqp
        simp only [decide_eq_true (show (stP hd q rec i).2.at ≠ 5 from h5)] at hqb hqd hqp
        subst hqb hqp
        have Hr := Lib.hid hr
        have Hqd := Lib.hid hqd
        have HA := Lib.hid hA
        clear hr hA h5 hqd
        go_wp2_with fail
        refine hask.mono ?_
        clear hask
        rintro e W1 ⟨rfl, hB1⟩
        have hA1 := HA.out.below' hB1
        have HB1 := Lib.hid hB1
        simp only [qV, Esch.p0, List.length_nil]
        clear hB1
        go_wp2_with fail
        obtain ⟨W2, hW2, hB2, hz2, b0, b1, b2, b3, b4, b5, b6, b7, b8⟩ := ask_box W1 (.int .i64 qk) (.int .i64 qu) (.int .i64 qe) (.int .i64 qp) (.int .i64 qs) (.int .i64 qn) (.string qd) (.int .i64 0) (.slice none 0 0)
        rw [← hW2]
        have hA2 := hA1.below' hB2
        have HB12 := Lib.hid (HB1.out.trans (hB2.mono HB1.out.size))
        have hc := ap1_hand hA2 (by omega) ⟨qk, qu, qe, qp, qs, qn, qd, Esch.p0⟩ rfl Hqd.out 0
        obtain ⟨⟨⟨x, xb⟩, hd'⟩, hxr⟩ : ∃ r, r = (stP hd q rec i).1.ask ⟨qk, qu, qe, qp, qs, qn, qd, Esch.p0⟩ 0 := ⟨_, rfl⟩
        rw [← hxr] at hc
        simp only [qV, Esch.p0, List.length_nil] at hc
        have Hxr := Lib.hid hxr
        have hab := hA2.ablt
        have HA2 := Lib.hid hA2
        clear hW2 hz2 hB2 hA1 hA2 hxr
        go_wp2_with fail
        refine hc.mono ?_
        clear hc b0 b1 b2 b3 b4 b5 b6 b7 b8
        rintro e W3 ⟨xa, xcc, rfl, hl3, hA3, hM3⟩
        have HMV2 := Lib.hid (HMV.out.trans (Mod.of_below HB12.out))
        have hVV : ∀ k, k < w.heap.size → V' k → V k := fun k hk h => (HV.out k h).resolve_right (by omega)
        have HMV3 := Lib.hid (HMV2.out.trans' hM3 hVV)
        have HV3 := Lib.hid (show ∀ k, grow V' W2 W3 k → V k ∨ w.heap.size ≤ k from fun k hk => by
          have := HMV2.out.size
          rcases hk with hk | hk
          · exact HV.out k hk
          · exact Or.inr (by omega))
        have hh := ap1_hear hA3 x xa xcc xb _ hl3 (fun k hk e => by have hk : W2.heap.size ≤ k := hk; omega)
        have hst1 : stP hd q rec (i + 1) = (hd', (stP hd q rec i).2.hear x xb) := by
          show puTurn (stP hd q rec i) = _
          unfold puTurn apTurn
          rw [if_neg H5.out, ← Hr.out, ← Hxr.out]
        have Hst4 := Lib.hid hst1
        clear hst1 hl3 hA3 hM3 hVV hab
        obtain ⟨xc, xn, xd, ⟨xpe, xls⟩, xm, xs, xe⟩ := x
        simp only [aV] at hh ⊢
        go_wp2_with fail
        refine hh.mono ?_
        clear hh
        rintro e W4 ⟨rfl, hA4, hM4⟩
        have HA4 := Lib.hid hA4
        have HMV4 := Lib.hid (HMV3.out.trans' hM4 (fun k hk h => (HV3.out k h).resolve_right (by omega)))
        have HV4 := Lib.hid (show ∀ k, grow (grow V' W2 W3) W3 W4 k → V k ∨ w.heap.size ≤ k from fun k hk => by
          have := HMV3.out.size
          rcases hk with hk | hk
          · exact HV3.out k hk
          · exact Or.inr (by omega))
        clear hA4 hM4
        go_wp2_with fail
        go_roundg (60 - (i + 1))
        case measure => omega
        case rel =>
          exact ⟨i + 1, _, rfl, by omega, by go_num, by rw [Hst4.out]; exact HA4.out.more (by omega), HV4.out, HMV4.out⟩
    · have hie : i = 60 := by omega
      have hie' : (60 : Int) ≤ i := by omega
      have Hst := Lib.hid (show stP hd q rec 60 = stP hd q rec i by rw [hie])
      clear hi3 hie i2
      have hov := ap1_over hA
      rw [show (stP hd q rec i).2 = (stP hd q rec 60).2 from by rw [Hst.out]] at hov
      have HA := Lib.hid hA
      clear hA
      obtain ⟨r, hr⟩ : ∃ r, r = (stP hd q rec 60).2 := ⟨_, rfl⟩
      rw [← hr] at hov
      have Hr := Lib.hid hr
      clear hr
      unfold OverV at hov
      by_cases hat : r.at = 5
      · rw [if_pos hat] at hov
        by_cases her : r.err = 0
        · rw [her] at hov
          have Hp := Lib.hid (show putN r = r.addr from if_pos ⟨hat, her⟩)
          clear hat her
          go_wp2_with fail
          refine hov.mono ?_
          clear hov
          rintro e w6 ⟨rfl, hM6⟩
          have HF := Lib.hid (HA.out.toHd.mod hM6 (fun _ _ => id) (fun _ _ => id))
          have HM6 := Lib.hid hM6
          clear hM6
          go_wp2_with fail
          go_ret
          have hMe : Mod V w w6 := HMV.out.trans (mod_none HM6.out)
          unfold Pu18Post
          rw [← Hr.out, Hp.out, Hst.out]
          exact ⟨rfl, HF.out.resub HV.out Hlt0.out Hold.out Hb0.out.size hMe.size (by omega), hMe⟩
        · have her' : (r.err != 0) = true := by simpa using her
          have Hp := Lib.hid (show putN r = -1 from if_neg (fun e => her e.2))
          clear hat her
          go_wp2_with fail
          refine hov.mono ?_
          clear hov
          rintro e w6 ⟨rfl, hM6⟩
          have HF := Lib.hid (HA.out.toHd.mod hM6 (fun _ _ => id) (fun _ _ => id))
          have HM6 := Lib.hid hM6
          clear hM6
          go_wp2_with fail
          go_ret
          have hMe : Mod V w w6 := HMV.out.trans (mod_none HM6.out)
          unfold Pu18Post
          rw [← Hr.out, Hp.out, Hst.out]
          exact ⟨rfl, HF.out.resub HV.out Hlt0.out Hold.out Hb0.out.size hMe.size (by omega), hMe⟩
      · rw [if_neg hat] at hov
        have Hp := Lib.hid (show putN r = -1 from if_neg (fun e => hat e.1))
        clear hat
        go_wp2_with fail
        refine hov.mono ?_
        clear hov
        rintro e w6 ⟨rfl, hM6⟩
        have HF := Lib.hid (HA.out.toHd.mod hM6 (fun _ _ => id) (fun _ _ => id))
        have HM6 := Lib.hid hM6
        clear hM6
        go_wp2_with fail
        go_ret
        have hMe : Mod V w w6 := HMV.out.trans (mod_none HM6.out)
        unfold Pu18Post
        rw [← Hr.out, Hp.out, Hst.out]
        exact ⟨rfl, HF.out.resub HV.out Hlt0.out Hold.out Hb0.out.size hMe.size (by omega), hMe⟩
end Go.Proofs.YtghdhhbpbmhooaaGreat
