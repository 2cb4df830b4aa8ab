/- the log's tail by way of a hand -/
import Derived.Test.YthdgochecdobnaaGreatTail2
import Derived.Test.YthdgochecdobnaaGreatPkHand
import Derived.Test.YthdgochecdobnaaGreatBytes8
namespace Go.Proofs.YthdgochecdobnaaGreat
open Go.RowKit Esch

/-- a hand whose sequencer will tell t next; what it holds asks for the tail alone -/
structure HT (w0 : World) (c t hb : Nat) (U : Nat → Prop) (w : World) : Prop where
  at' : ∃ T s, HandAt w hb U T s ∧ T ≤ 16 * (c + 1) ∧ s.nd.o = ⟨0, true, t⟩ ∧ ∀ q ∈ s.held, q = q7
  old : ∀ k, U k → w0.heap.size ≤ k
  below : Below w0.heap.size w0 w
theorem HT.lt {w0 w : World} {c t hb : Nat} {U : Nat → Prop} (h : HT w0 c t hb U w) : ∀ k, U k → k < w.heap.size := by
  obtain ⟨T, s, hH, -⟩ := h.at'
  exact hH.lt
theorem HO.toT {w0 w : World} {c t hb : Nat} {U : Nat → Prop} (h : HO w0 c t 0 hb U w) : HT w0 c t hb U w := by
  obtain ⟨⟨T, s, hH, h1, h2, h3⟩, h4, h5⟩ := h
  exact ⟨⟨T, s, hH, h1, h2, fun q hq => by rw [h3] at hq; simp at hq⟩, h4, h5⟩
theorem HT.mod {F : Nat → Prop} {w0 w w' : World} {c t hb : Nat} {U : Nat → Prop} (h : HT w0 c t hb U w) (hM : Mod F w w') (hF : ∀ k, U k → ¬ F k) (hw : ∀ k, k < w0.heap.size → ¬ F k) : HT w0 c t hb U w' := by
  obtain ⟨⟨T, s, hH, h1⟩, h2, h3⟩ := h
  exact ⟨⟨T, s, hH.mod hM hF, h1⟩, h2, h3.trans (hM.below_at h3.size hw)⟩
theorem HT.below' {w0 w w' : World} {c t hb : Nat} {U : Nat → Prop} (h : HT w0 c t hb U w) (hB : Below w.heap.size w w') : HT w0 c t hb U w' := h.mod (F := none') (Mod.of_below hB) (fun _ _ => id) (fun _ _ => id)
theorem HT.sub {U' : Nat → Prop} {w0 w : World} {c c' t hb : Nat} {U : Nat → Prop} (h : HT w0 c t hb U w) (hc : c ≤ c') (hU : ∀ k, U k → U' k) (hl : ∀ k, U' k → k < w.heap.size) (ho : ∀ k, U' k → w0.heap.size ≤ k) : HT w0 c' t hb U' w := by
  obtain ⟨⟨T, s, hH, h1, h2⟩, -, h3⟩ := h
  exact ⟨⟨T, s, hH.sub hU hl, by omega, h2⟩, ho, h3⟩
def HTPost (w0 : World) (c t hb : Nat) (U : Nat → Prop) (w : World) (x : AnS) (b : Bool) (e : Ending) (w' : World) : Prop := (∃ ca cc, e = .returned (.tuple #[aV x ca cc, .bool b])) ∧ HT w0 c t hb (grow U w w') w' ∧ Mod U w w'
section
variable {w0 w : World} {c t hb : Nat} {U : Nat → Prop}
theorem HT.post {w' : World} {T : Nat} {s : HdS} (h : HT w0 c t hb U w) {t' : Nat} (hH : HandAt w' hb (grow U w w') T s) (hT : T ≤ 16 * (c + 1 + 1)) (ho : s.nd.o = ⟨0, true, t'⟩) (hh : ∀ q ∈ s.held, q = q7) (hM : Mod U w w') : HT w0 (c + 1) t' hb (grow U w w') w' :=
  ⟨⟨T, s, hH, hT, ho, hh⟩, fun k hk => hk.elim (h.old k) (fun e => by have := h.below.size; omega), h.below.trans (hM.below_at h.below.size (fun k hk e => by have := h.old k e; omega))⟩
theorem ht_heard (h : HT w0 c t hb U w) (hc : c < 1000) : Calls Tryz.prog 18 #[.pointer (some ⟨hb, 0, none⟩), qV q7 none 0, .int .i64 0] w (HTPost w0 (c + 1) t hb U w (anN t) true) := by
  obtain ⟨T, s, hH, hT, ho, hh⟩ := h.at'
  refine (handAsk_heard q7 none 0 hH (by omega) (by decide) none' (ListsAt.nil _ _ _) (fun _ h => h.elim)).mono ?_
  rw [do_q7 ho]
  rintro e w' ⟨a, c', rfl, hl, hH', hM⟩
  exact ⟨⟨a, c', rfl⟩, h.post hH' (by omega) ho hh hM, hM⟩
theorem ht_not (h : HT w0 c t hb U w) (hc : c < 1000) (f : Int) (hf : f ≠ 0) : Calls Tryz.prog 18 #[.pointer (some ⟨hb, 0, none⟩), qV q7 none 0, .int .i64 f] w (HTPost w0 (c + 1) t hb U w an0 false) := by
  obtain ⟨T, s, hH, hT, ho, hh⟩ := h.at'
  refine (handAsk_any q7 none 0 f hH (by omega) (by decide) small_nil none' (ListsAt.nil _ _ _) (fun _ h => h.elim)).mono ?_
  unfold HdS.ask
  rw [if_neg hf]
  by_cases h2 : f = 2
  · rw [if_pos h2, do_q7 ho]
    rintro e w' ⟨a, c', rfl, hl, hH', hM⟩
    exact ⟨⟨a, c', rfl⟩, h.post hH' (by omega) ho hh hM, hM⟩
  · rw [if_neg h2]
    by_cases h3 : f = 3 ∧ s.held.length < 64
    · rw [if_pos h3]
      rintro e w' ⟨a, c', rfl, hl, hH', hM⟩
      exact ⟨⟨a, c', rfl⟩, h.post hH' (by omega) ho (fun q hq => by rcases List.mem_append.1 hq with hq | hq; exact hh q hq; simpa using hq) hM, hM⟩
    · rw [if_neg h3]
      rintro e w' ⟨a, c', rfl, hl, hH', hM⟩
      exact ⟨⟨a, c', rfl⟩, h.post hH' (by omega) ho hh hM, hM⟩
theorem ht_do (h : HT w0 c t hb U w) (hc : c < 1000) (k : Int) : Calls Tryz.prog 20 #[.pointer (some ⟨hb, 0, none⟩), .int .i64 k] w fun e w' => ∃ b, e = .returned (.bool b) ∧ HT w0 (c + 1) t hb (grow U w w') w' ∧ Mod U w w' := by
  obtain ⟨T, s, hH, hT, ho, hh⟩ := h.at'
  refine (handDo_any hH (by omega) k).mono ?_
  rintro e w' ⟨rfl, hH', hM⟩
  refine ⟨_, rfl, ?_, hM⟩
  unfold HdS.doHeld at hH'
  by_cases h0 : k < 0
  · rw [if_pos h0] at hH'
    exact h.post hH' (by omega) ho hh hM
  · rw [if_neg h0] at hH'
    cases hq : s.held[k.toNat]? with
    | none =>
      rw [hq] at hH'
      exact h.post hH' (by omega) ho hh hM
    | some q =>
      rw [hq] at hH'
      have := hh q (List.mem_of_getElem? hq)
      subst this
      simp only at hH'
      rw [do_q7 ho] at hH'
      exact h.post hH' (by omega) ho (fun q hq => hh q (List.mem_of_mem_eraseIdx hq)) hM
end
theorem hear_told (t : Nat) (ht : t ≤ 16384) : (TaS.mk qTwo 1 0 0).hear (anN t) true = ⟨qTwo, 2, t, 0⟩ := by
  unfold TaS.hear
  rw [if_neg (by simp [anN]), if_neg (by simp [anN]), if_pos rfl, if_neg (by simp [anN]), if_neg (by simp only [anN]; omega)]
  rfl
theorem hear_lost (s : TaS) (x : AnS) : s.hear x false = s := by
  unfold TaS.hear
  rw [if_pos (Or.inr (Or.inl rfl))]
theorem ask_box9 (w : World) (x0 x1 x2 x3 x4 x5 x6 x7 x8 : Value) : ∃ W, W = w.alloc (.cells #[x0, x1, x2, x3, x4, x5, x6, x7, x8] 33) ∧ Below w.heap.size w W ∧ W.heap.size = w.heap.size + 1 ∧ (W.cell? ⟨w.heap.size, 0, none⟩ = some x0 ∧ W.cell? ⟨w.heap.size, 1, none⟩ = some x1 ∧ W.cell? ⟨w.heap.size, 2, none⟩ = some x2 ∧ W.cell? ⟨w.heap.size, 3, none⟩ = some x3 ∧ W.cell? ⟨w.heap.size, 4, none⟩ = some x4 ∧ W.cell? ⟨w.heap.size, 5, none⟩ = some x5 ∧ W.cell? ⟨w.heap.size, 6, none⟩ = some x6 ∧ W.cell? ⟨w.heap.size, 7, none⟩ = some x7 ∧ W.cell? ⟨w.heap.size, 8, none⟩ = some x8) :=
  ⟨_, rfl, by (repeat (first | with_reducible exact (Below.refl _ _) | with_reducible refine Below.drew ?_ | with_reducible refine Esch.below_drewN ?_ _ | with_reducible refine Below.setCell ?_ (by first | omega | (simp; done) | (simp; omega)) _ | with_reducible refine Below.alloc ?_ (by first | omega | (simp; done) | (simp; omega)) _)), by simp, by go_simp, by go_simp, by go_simp, by go_simp, by go_simp, by go_simp, by go_simp, by go_simp, by go_simp⟩
theorem small_two : Small qTwo.chains := good_small (p := qTwo) (by decide)
theorem ta0_two : ta0 qTwo = ⟨qTwo, 1, 0, 0⟩ := by unfold ta0; rw [if_pos (by decide)]
structure SeeAt (w0 w : World) (tb hb t L c0 i : Nat) (U0 : Nat → Prop) (wr : World) : Prop where
  at' : ∃ (U S : Nat → Prop) (s : TaS), HT w0 (c0 + i) t hb U wr ∧ TailAt wr tb S s ∧ (∀ k, S k → ¬ U k ∧ k < wr.heap.size ∧ w.heap.size ≤ k) ∧ (∀ k, U k → U0 k ∨ w.heap.size ≤ k) ∧ (s = ⟨qTwo, 1, 0, 0⟩ ∧ i ≤ L ∨ s = ⟨qTwo, 2, t, 0⟩ ∧ i ≤ L + 1)
  mod : Mod U0 w wr
def SeeRel (w0 w : World) (tb hb t L c0 : Nat) (U0 : Nat → Prop) (gg : Nat) (s10 : Value) (wr : World) : Prop := ∃ i : Nat, gg = L + 2 - i ∧ s10 = .int .i64 i ∧ SeeAt w0 w tb hb t L c0 i U0 wr
/-- one question more: its box has been laid (W2), it has been asked (w3), heard (w4) -/
theorem SeeAt.step {w0 w wr W2 w3 w4 : World} {tb hb t L c0 i : Nat} {U0 U S : Nat → Prop} {s4 : TaS} (hM0 : Mod U0 w wr) (hS : ∀ k, S k → ¬ U k ∧ k < wr.heap.size ∧ w.heap.size ≤ k) (hU : ∀ k, U k → U0 k ∨ w.heap.size ≤ k) (hB2 : Below wr.heap.size wr W2) (htS : S tb)
    (hT3 : HT w0 (c0 + i + 1) t hb (grow U W2 w3) w3) (hM3 : Mod U W2 w3) (h4 : TailHearPost w3 tb S s4 (.returned (.tuple #[])) w4) (hw0 : w0.heap.size ≤ w.heap.size)
    (hs : s4 = ⟨qTwo, 1, 0, 0⟩ ∧ i + 1 ≤ L ∨ s4 = ⟨qTwo, 2, t, 0⟩ ∧ i + 1 ≤ L + 1) : SeeAt w0 w tb hb t L c0 (i + 1) U0 w4 := by
  obtain ⟨-, hA, hM4⟩ := h4
  have z1 := hM0.size
  have z2 := hB2.size
  have z3 := hM3.size
  have z4 := hM4.size
  have htb := hS tb htS
  have hnt : ∀ k, grow U W2 w3 k → ¬ k = tb := fun k hk e => by
    subst e
    rcases hk with hk | hk
    · exact htb.1 hk
    · have := htb.2.1; omega
  refine ⟨⟨grow U W2 w3, _, s4, hT3.mod hM4 hnt (fun k hk e => by have := htb.2.2; omega), hA, fun k hk => ?_, fun k hk => ?_, hs⟩, ?_⟩
  · rcases hk with hk | hk
    · obtain ⟨k1, k2, k3⟩ := hS k hk
      exact ⟨fun e => e.elim k1 (fun e => by omega), by omega, k3⟩
    · exact ⟨fun e => by have := hT3.lt k e; omega, hk.2, by omega⟩
  · rcases hk with hk | hk
    · exact hU k hk
    · exact Or.inr (by omega)
  · refine (hM0.trans (Mod.of_below hB2)).trans' (G := fun k => U k ∨ k = tb) ((hM3.mono (fun _ _ h => Or.inl h)).trans (hM4.mono (fun _ _ h => Or.inr h))) (fun k hk e => ?_)
    rcases e with e | e
    · rcases hU k e with e | e
      · exact e
      · omega
    · have := htb.2.2; omega
set_option maxRecDepth 100000 in
set_option maxHeartbeats 4000000 in
theorem see_any {w0 w : World} {c0 t hb : Nat} {U0 : Nat → Prop} (h : HT w0 c0 t hb U0 w) (hc : c0 ≤ 900) (ht : t ≤ 16384) (Sp : Nat → Prop) (pa : Option Addr) (pc : Nat) (hp : ListsAt Sp w pa qTwo.chains) (fa : Option Addr) (fl : List Int) (fc : Nat) (hfl : fl.length ≤ 60) (hf : BytesAt w0 fa fl) :
    Calls Tryz.prog 19 #[.pointer (some ⟨hb, 0, none⟩), .agg #[.int .i64 0, .slice pa 1 pc], .slice fa fl.length fc] w
      fun e w' => e = .returned (.tuple #[.int .i64 t, .int .i64 0, .bool true]) ∧ HT w0 (c0 + 62) t hb (grow U0 w w') w' ∧ Mod U0 w w' := by
  obtain ⟨W0, hW0, hB0, hz0, p0, p1⟩ := oneBox w 24 (.int .i64 0) (.slice pa 1 pc)
  have htn : Calls Tryz.prog 13 #[.agg #[.int .i64 0, .slice pa 1 pc]] W0 _ := tailNew_any Sp W0 qTwo pa pc small_two (hp.mod (F := none') (Mod.of_below hB0) (fun _ _ _ => id))
  have HW0 := Lib.hid hW0
  have H := Lib.hid (h.below' hB0)
  have Hf := Lib.hid hf
  have hw0 := h.below.size
  have hU0 := h.lt
  have hU0o := h.old
  clear hW0 hp h hf
  go_enter Tryz.func19, Tryz.ntmps19
  go_wp2_with fail
  rw [← HW0.out]
  refine htn.mono ?_
  clear htn
  rintro e w1 ⟨tb, rfl, hT1, hB1⟩
  have hz1 := hB1.size
  have hA1 : SeeAt w0 w tb hb t fl.length c0 0 U0 w1 := ⟨⟨U0, fun k => W0.heap.size ≤ k ∧ k < w1.heap.size, _, H.out.below' hB1, hT1.sub (fun k hk h => ⟨h, hk⟩), fun k hk => ⟨fun e => by have := hU0 k e; omega, hk.2, by omega⟩, fun k hk => Or.inl hk, Or.inl ⟨ta0_two, Nat.zero_le _⟩⟩, (Mod.of_below hB0).trans (Mod.of_below hB1)⟩
  have HA1 := Lib.hid hA1
  clear hA1 hT1 hB1 hB0 p0 p1
  go_wp2_with fail
  go_loopg [10] (fl.length + 2) (fun gg s10 wr => SeeRel w0 w tb hb t fl.length c0 U0 gg s10 wr)
  case atStart => exact ⟨0, rfl, rfl, HA1.out⟩
  case round =>
    obtain ⟨i, rfl, rfl, ⟨⟨U, S, s, hH, hT, hS, hU, hs⟩, hM⟩⟩ := hrel
    have hiL : i ≤ fl.length + 1 := by omega
    have i0 : (i : Int) < (fl.length : Int) + 20 := by omega
    have hcl : c0 + i < 1000 := by omega
    have HH := Lib.hid hH
    have HT := Lib.hid hT
    have HS := Lib.hid hS
    have HU := Lib.hid hU
    have HM := Lib.hid hM
    have hak := tailAsk_any hT
    have htl := hT.lt
    rcases hs with ⟨rfl, hi⟩ | ⟨rfl, hi⟩
    · have hak' : Calls Tryz.prog 10 #[.pointer (some ⟨tb, 0, none⟩)] wr fun e w' => e = .returned (.tuple #[qV q7 none 0, .bool true]) ∧ Below wr.heap.size wr w' := hak
      simp only [qV, Esch.p0, List.length_nil] at hak'
      clear hak hH hT hS hU hM
      go_wp2_with fail
      refine hak'.mono ?_
      clear hak'
      rintro e w2 ⟨rfl, hB2⟩
      obtain ⟨W2, hW2, hBW2, hzW2, a0, a1, a2, a3, a4, a5, a6, a7, a8⟩ := ask_box9 w2 (.int .i64 7) (.int .i64 0) (.int .i64 0) (.int .i64 0) (.int .i64 0) (.int .i64 0) (.string ⟨#[]⟩) (.int .i64 0) (.slice none 0 0)
      have hBr2 : Below wr.heap.size wr W2 := hB2.trans (hBW2.mono hB2.size)
      have HBr2 := Lib.hid hBr2
      have hH2 := HH.out.below' hBr2
      have HW2 := Lib.hid hW2
      have HT2 := Lib.hid (HT.out.below hBr2)
      have hcell0 : i < fl.length → ∃ b off v, fa = some ⟨b, off, none⟩ ∧ w2.cell? ⟨b, off + i, none⟩ = some (.int .u8 v) ∧ 0 ≤ v ∧ v ≤ 255 := fun hi => Hf.out.get (HH.out.below.trans (hB2.mono HH.out.below.size)) hi
      have HZ := Lib.hid (show wr.heap.size ≤ W2.heap.size from hBr2.size)
      by_cases hiL2 : i < fl.length
      · obtain ⟨b, off, v, rfl, hcell, v0, v1⟩ := hcell0 hiL2
        have hbw : b < w2.heap.size := cell_lt hcell
        have i1 : (0 : Int) ≤ i := by omega
        have i2 : (i : Int) < fl.length := by omega
        by_cases hv : v % 4 = 0
        · have hask := ht_heard hH2 hcl
          have Hv := Lib.hid hv
          clear hv hH2 hW2 hBW2 hBr2 hB2 hcell0 a0 a1 a2 a3 a4 a5 a6 a7 a8
          simp only [qV, Esch.p0, List.length_nil] at hask
          go_wp2_with fail
          rw [Hv.out]
          rw [← HW2.out]
          refine hask.mono ?_
          clear hask
          rintro e w3 ⟨⟨ca, cc, rfl⟩, hT3, hM3⟩
          have hhe := tailHear_any (anN t) ca cc true (HT2.out.mod hM3 (fun k hk _ => (HS.out k hk).1)) none' (ListsAt.nil _ _ _)
          rw [hear_told t ht] at hhe
          simp only [aV, anN, Esch.p0, List.length_nil] at hhe ⊢
          have HT3 := Lib.hid hT3
          have HM3 := Lib.hid hM3
          clear hT3 hM3
          go_wp2_with fail
          refine hhe.mono ?_
          clear hhe
          rintro e w4 h4
          obtain rfl := h4.1
          have HS4 := Lib.hid (SeeAt.step HM.out HS.out HU.out HBr2.out HT.out.sb HT3.out HM3.out h4 hw0 (Or.inr ⟨rfl, show i + 1 ≤ fl.length + 1 by omega⟩))
          clear h4
          go_wp2_with fail
          go_roundg (fl.length + 2 - (i + 1))
          case measure => omega
          case rel => exact ⟨i + 1, rfl, by go_num, HS4.out⟩
        · have hask := ht_not hH2 hcl (v % 4) hv
          clear hv hH2 hW2 hBW2 hBr2 hB2 hcell0 a0 a1 a2 a3 a4 a5 a6 a7 a8
          simp only [qV, Esch.p0, List.length_nil] at hask
          go_wp2_with fail
          skip
          rw [← HW2.out]
          refine hask.mono ?_
          clear hask
          rintro e w3 ⟨⟨ca, cc, rfl⟩, hT3, hM3⟩
          have hhe := tailHear_any an0 ca cc false (HT2.out.mod hM3 (fun k hk _ => (HS.out k hk).1)) none' (ListsAt.nil _ _ _)
          rw [hear_lost] at hhe
          simp only [aV, an0, Esch.p0, List.length_nil] at hhe ⊢
          have HT3 := Lib.hid hT3
          have HM3 := Lib.hid hM3
          clear hT3 hM3
          go_wp2_with fail
          refine hhe.mono ?_
          clear hhe
          rintro e w4 h4
          obtain rfl := h4.1
          have HS4 := Lib.hid (SeeAt.step HM.out HS.out HU.out HBr2.out HT.out.sb HT3.out HM3.out h4 hw0 (Or.inl ⟨rfl, show i + 1 ≤ fl.length by omega⟩))
          clear h4
          go_wp2_with fail
          go_roundg (fl.length + 2 - (i + 1))
          case measure => omega
          case rel => exact ⟨i + 1, rfl, by go_num, HS4.out⟩
      · have hask := ht_heard hH2 hcl
        have i2 : (fl.length : Int) ≤ i := by omega
        clear hH2 hW2 hBW2 hBr2 hB2 hcell0 a0 a1 a2 a3 a4 a5 a6 a7 a8
        simp only [qV, Esch.p0, List.length_nil] at hask
        go_wp2_with fail
        skip
        rw [← HW2.out]
        refine hask.mono ?_
        clear hask
        rintro e w3 ⟨⟨ca, cc, rfl⟩, hT3, hM3⟩
        have hhe := tailHear_any (anN t) ca cc true (HT2.out.mod hM3 (fun k hk _ => (HS.out k hk).1)) none' (ListsAt.nil _ _ _)
        rw [hear_told t ht] at hhe
        simp only [aV, anN, Esch.p0, List.length_nil] at hhe ⊢
        have HT3 := Lib.hid hT3
        have HM3 := Lib.hid hM3
        clear hT3 hM3
        go_wp2_with fail
        refine hhe.mono ?_
        clear hhe
        rintro e w4 h4
        obtain rfl := h4.1
        have HS4 := Lib.hid (SeeAt.step HM.out HS.out HU.out HBr2.out HT.out.sb HT3.out HM3.out h4 hw0 (Or.inr ⟨rfl, show i + 1 ≤ fl.length + 1 by omega⟩))
        clear h4
        go_wp2_with fail
        go_roundg (fl.length + 2 - (i + 1))
        case measure => omega
        case rel => exact ⟨i + 1, rfl, by go_num, HS4.out⟩
    · have hak' : Calls Tryz.prog 10 #[.pointer (some ⟨tb, 0, none⟩)] wr fun e w' => e = .returned (.tuple #[qV qz none 0, .bool false]) ∧ Below wr.heap.size wr w' := hak
      simp only [qV, Esch.p0, List.length_nil] at hak'
      clear hak hH hT hS hU hM
      go_wp2_with fail
      refine hak'.mono ?_
      clear hak'
      rintro e w2 ⟨rfl, hB2⟩
      obtain ⟨W2, hW2, hBW2, hzW2, a0, a1, a2, a3, a4, a5, a6, a7, a8⟩ := ask_box9 w2 (.int .i64 0) (.int .i64 0) (.int .i64 0) (.int .i64 0) (.int .i64 0) (.int .i64 0) (.string ⟨#[]⟩) (.int .i64 0) (.slice none 0 0)
      have hBr2 : Below wr.heap.size wr W2 := hB2.trans (hBW2.mono hB2.size)
      have hov := tailOver_any (HT.out.below hBr2)
      rw [if_pos rfl] at hov
      have HW2 := Lib.hid hW2
      have HBr2 := Lib.hid hBr2
      clear hW2 hBW2 hBr2 hB2 a0 a1 a2 a3 a4 a5 a6 a7 a8
      go_wp2_with fail
      rw [← HW2.out]
      refine hov.mono ?_
      clear hov
      rintro e w3 ⟨rfl, hM3⟩
      have hMf : Mod U0 w w3 := (HM.out.trans (Mod.of_below HBr2.out)).trans (mod_none hM3)
      have hTf := (HH.out.below' HBr2.out).mod hM3 (fun _ _ => id) (fun _ _ => id)
      have HMf := Lib.hid hMf
      have HTf := Lib.hid hTf
      clear hM3 hMf hTf
      go_wp2_with fail
      refine bodyPost_ret (v := .tuple #[.int .i64 t, .int .i64 0, .bool true]) (by simp only [results, Tryz.results19]; go_simp) rfl ?_
      have hzf := HMf.out.size
      refine ⟨rfl, HTf.out.sub (by omega) (fun k hk => ?_) (fun k hk => ?_) (fun k hk => ?_), HMf.out⟩
      · rcases HU.out k hk with e | e
        · exact Or.inl e
        · exact Or.inr ⟨e, HTf.out.lt k hk⟩
      · rcases hk with hk | hk
        · have := hU0 k hk; omega
        · exact hk.2
      · rcases hk with hk | hk
        · exact hU0o k hk
        · omega
end Go.Proofs.YthdgochecdobnaaGreat
