/-
  The law AppendFull: with no room anywhere an append is over with ErrFull, or with ErrTime where a write of it may be somewhere.
  Conditions: none.
-/
import Derived.Test.YtohmmjaikhpcfaaGreatApPlain
import Derived.Test.YtohmmjaikhpcfaaGreatRow
import Derived.Test.YtohmmjaikhpcfaaGreatReadApi
namespace Go.Proofs.YtohmmjaikhpcfaaGreat
open Go.RowKit Esch Go.ChangeShapes Go.WideShapes Go.ChangeAt

def stF : Nat → HdS × ApS
  | 0 => (⟨nd0 qTwo 1, []⟩, ap0 qTwo ⟨#[102, 105, 114, 115, 116]⟩)
  | i + 1 => apTurn (stF i) 0
theorem stF_txt : ∀ i, (stF i).2.txt = ⟨#[102, 105, 114, 115, 116]⟩
  | 0 => by kernel_rfl
  | i + 1 => by show ((stF i).2.hear _ _).txt = _; rw [ApS.hear_txt, stF_txt i]
def fateA (k i : Nat) (s : HdS × ApS) : Int := if s.2.ask.1.kind = 1 ∧ i ≤ k then 1 else 0
def stA (rec : ByteArray) (k : Nat) : Nat → HdS × ApS
  | 0 => ((stF 3).1, ap0 qTwo rec)
  | i + 1 => apTurn (stA rec k i) (fateA k i (stA rec k i))
theorem stA_txt {rec : ByteArray} (k : Nat) (h : rec.size ≤ 1000) : ∀ i, (stA rec k i).2.txt = rec
  | 0 => by
    show (ap0 qTwo rec).txt = rec
    unfold ap0
    rw [if_neg (by decide), if_neg (by omega)]
  | i + 1 => by show ((stA rec k i).2.hear _ _).txt = _; rw [ApS.hear_txt, stA_txt k h i]
def hd4 : HdS := (apTurn (stF 3) 0).1
def hdA : HdS := ((stF 3).1.ask q6 0).2
def apW (rec : ByteArray) (b : Bool) : ApS := ⟨qTwo, rec, 3, 0, 0, 1, 0, b⟩
def pgA : PgS := ⟨1, 0, [(0, (1, ⟨#[102, 105, 114, 115, 116]⟩))]⟩
theorem hdA_units : ∀ i, i < 16 → hdA.nd.units i = ⟨if i ≤ 1 then pgA else pg0 1, 0, false⟩
  | 0, _ => by kernel_rfl
  | 1, _ => by kernel_rfl
  | 2, _ => by kernel_rfl
  | 3, _ => by kernel_rfl
  | 4, _ => by kernel_rfl
  | 5, _ => by kernel_rfl
  | 6, _ => by kernel_rfl
  | 7, _ => by kernel_rfl
  | 8, _ => by kernel_rfl
  | 9, _ => by kernel_rfl
  | 10, _ => by kernel_rfl
  | 11, _ => by kernel_rfl
  | 12, _ => by kernel_rfl
  | 13, _ => by kernel_rfl
  | 14, _ => by kernel_rfl
  | 15, _ => by kernel_rfl
  | _ + 16, h => absurd h (by omega)
theorem hdA_hlt : Hlt hdA.nd 2 (fun i => if i ≤ 1 then pgA else pg0 1) := ⟨hdA_units, by kernel_rfl⟩
theorem stA_one {rec : ByteArray} (k : Nat) (h : rec.size ≤ 1000) : stA rec k 1 = (hdA, apW rec false) := by
  have e0 : ap0 qTwo rec = ⟨qTwo, rec, 2, 0, 0, 0, 0, false⟩ := by
    unfold ap0
    rw [if_neg (by decide), if_neg (by omega)]
  show apTurn ((stF 3).1, ap0 qTwo rec) (fateA k 0 ((stF 3).1, ap0 qTwo rec)) = _
  rw [e0, show fateA k 0 ((stF 3).1, ⟨qTwo, rec, 2, 0, 0, 0, 0, false⟩) = 0 by unfold fateA; rw [if_neg (fun e => absurd e.1 (by show ¬ (6 : Int) = 1; decide))]]
  kernel_rfl
theorem apW_ask (rec : ByteArray) (b : Bool) : (apW rec b).ask = (⟨1, 0, 0, 1, 0, 0, rec, Esch.p0⟩, true) := by kernel_rfl
theorem apW_lost (rec : ByteArray) (b : Bool) : apTurn (hdA, apW rec b) 1 = (hdA, apW rec true) := by
  unfold apTurn
  rw [apW_ask]
  show (hdA, (apW rec b).hear an0 false) = _
  rw [ApS.hear_lost (by show ¬ (3 : Int) = 5; decide)]
  show (hdA, (⟨qTwo, rec, 3, 0, 0, 1, 0, b || true⟩ : ApS)) = _
  rw [Bool.or_true]
  rfl
theorem apW_full (rec : ByteArray) (h : rec.size ≤ 1000) (b : Bool) : (apTurn (hdA, apW rec b) 0).2 = (apW rec b).full := by
  unfold apTurn
  rw [apW_ask]
  show (apW rec b).hear (hdA.nd.do _).1 true = _
  refine ApS.hear_full3 rfl ?_
  show ((hdA.nd.do ⟨1, ((0 : Nat) : Int), 0, 1, 0, 0, rec, Esch.p0⟩).1).code = 44
  rw [(hdA_hlt.write 0 (by decide) 1 rec).1]
  show (PgS.write pgA 1 rec).1 = 44
  unfold PgS.write
  rw [if_neg (by decide), if_neg (by omega), if_neg (by decide), if_neg (by decide +kernel)]
  rfl
theorem stA_lost {rec : ByteArray} {k : Nat} (h : rec.size ≤ 1000) : ∀ j, j ≤ k → stA rec k (1 + j) = (hdA, apW rec (decide (0 < j)))
  | 0, _ => stA_one k h
  | j + 1, hj => by
    show apTurn (stA rec k (1 + j)) (fateA k (1 + j) (stA rec k (1 + j))) = _
    rw [stA_lost h j (by omega), show fateA k (1 + j) (hdA, apW rec (decide (0 < j))) = 1 by unfold fateA; rw [if_pos ⟨by rw [apW_ask], by omega⟩], apW_lost]
    simp
theorem stA_over {rec : ByteArray} {k : Nat} (h : rec.size ≤ 1000) : ∀ j, (stA rec k (k + 2 + j)).2.at = 5 ∧ (stA rec k (k + 2 + j)).2.err = if 1 ≤ k then 69 else 44
  | 0 => by
    have e : (stA rec k (k + 2 + 0)).2 = (apW rec (decide (0 < k))).full := by
      rw [show k + 2 + 0 = (1 + k) + 1 by omega]
      show (apTurn (stA rec k (1 + k)) (fateA k (1 + k) (stA rec k (1 + k)))).2 = _
      rw [stA_lost h k (Nat.le_refl _), show fateA k (1 + k) (hdA, apW rec (decide (0 < k))) = 0 by unfold fateA; rw [if_neg (fun e => by have := e.2; omega)], apW_full rec h]
    rw [e]
    refine ⟨rfl, ?_⟩
    show (if decide (0 < k) = true then (69 : Int) else 44) = _
    by_cases hk : 1 ≤ k
    · rw [if_pos hk, if_pos (decide_eq_true (by omega))]
    · rw [if_neg hk, if_neg (by rw [decide_eq_false (by omega)]; decide)]
  | j + 1 => by
    obtain ⟨h1, h2⟩ := stA_over h j
    have e : (stA rec k (k + 2 + (j + 1))).2 = (stA rec k (k + 2 + j)).2 := apTurn_end h1 _
    rw [e]
    exact ⟨h1, h2⟩
theorem stA_at {rec : ByteArray} {k : Nat} (h : rec.size ≤ 1000) (j : Nat) (hj : (stA rec k j).2.ask.2 = false ∨ k + 2 ≤ j) : OverV (stA rec k j).2 = .tuple #[.int .i64 (stA rec k j).2.addr, .int .i64 (if 1 ≤ k then 69 else 44), .bool true] := by
  have key : k + 2 ≤ j := by
    rcases hj with hj | hj
    · rw [ApS.ask_2] at hj
      have hj : (stA rec k j).2.at = 5 := by simpa using hj
      match j with
      | 0 =>
        exfalso
        have e0 : ap0 qTwo rec = ⟨qTwo, rec, 2, 0, 0, 0, 0, false⟩ := by
          unfold ap0
          rw [if_neg (by decide), if_neg (by omega)]
        have : (ap0 qTwo rec).at = 5 := hj
        rw [e0] at this
        exact absurd this (by show ¬ (2 : Int) = 5; decide)
      | j + 1 =>
        rcases Nat.lt_or_ge j (k + 1) with hl | hl
        · exfalso
          rw [show j + 1 = 1 + j by omega, stA_lost h j (by omega)] at hj
          exact absurd hj (by show ¬ (3 : Int) = 5; decide)
        · omega
    · exact hj
  obtain ⟨i, rfl⟩ : ∃ i, j = k + 2 + i := ⟨j - (k + 2), by omega⟩
  obtain ⟨h1, h2⟩ := stA_over (k := k) h i
  unfold OverV
  rw [if_pos h1, h2]
def AFRel1 (w0 : World) (hb ab g : Nat) (s9 : Value) (wr : World) : Prop := ∃ (i : Nat) (V : Nat → Prop), g = 3 - i ∧ i ≤ 3 ∧ s9 = .int .i64 i ∧ Ap1 w0 i hb ab V (stF i).1 (stF i).2 wr
def AFRel2 (rec : ByteArray) (k : Nat) (w0 : World) (hb ab g : Nat) (s14 : Value) (wr : World) : Prop := ∃ (i : Nat) (V : Nat → Prop), g = 10 - i ∧ i ≤ 10 ∧ s14 = .int .i64 i ∧ Ap1 w0 (3 + i) hb ab V (stA rec k i).1 (stA rec k i).2 wr
set_option maxRecDepth 100000 in
set_option maxHeartbeats 4000000 in
theorem appendFull_walk (rec : ByteArray) (hsz : rec.size ≤ 9223372036854775807) (kv : Int) (hk0 : 0 ≤ kv) (hk1 : kv ≤ 255) (w : World) :
    Calls Tryz.prog 4 #[.string rec, .int .u8 kv] w fun r w' => r = .returned (.bool true) ∧ Below w.heap.size w w' := by
  by_cases hr1 : 1000 < rec.size
  · have hr1' : (1000 : Int) < rec.size := by omega
    clear hr1
    go_enter Tryz.func4, Tryz.ntmps4
    go_wp2_with fail
    refine (wakes15_any _).mono ?_
    rintro e w7 ⟨rfl, hB7⟩
    go_wp2_with fail
    go_ret
    exact ⟨rfl, hB7⟩
  obtain ⟨k, hk, hlt⟩ : ∃ k : Nat, kv % 3 = k ∧ k < 3 := ⟨(kv % 3).toNat, by omega, by omega⟩
  have Hk := Lib.hid hk
  have hr1' : (rec.size : Int) ≤ 1000 := by omega
  have Hrec := Lib.hid (show rec.size ≤ 1000 by omega)
  clear hk hr1 hsz
  go_enter Tryz.func4, Tryz.ntmps4
  go_wp2_with fail
  refine (two15_any _).mono ?_
  rintro e w1 ⟨b1, rfl, hl1, hB1⟩
  go_wp2_with fail
  have hmk : Calls Tryz.prog 11 #[.agg #[.int .i64 0, .slice (some ⟨b1, 0, none⟩) 1 1], .int .i64 1] _ _ := made_any _ w1 qTwo _ 1 1 (by decide) hl1 (by decide) (by decide)
  refine hmk.mono ?_
  clear hmk hl1
  rintro e w2 ⟨hb, rb, nb, rfl, hH2, -, hB2⟩
  have hz1 := hB1.size
  have hB02 := hB1.trans (hB2.mono hz1)
  have hz2 := hB2.size
  go_wp2_with fail
  refine (two15_any _).mono ?_
  rintro e w3 ⟨b3, rfl, hl3, hB3⟩
  have hz3 := hB3.size
  have hH3 := hH2.below hB3
  have hB03 := hB02.trans (hB3.mono (by omega))
  have hnw : Calls Tryz.prog 14 #[.agg #[.int .i64 0, .slice (some ⟨b3, 0, none⟩) 1 1], .string ⟨#[102, 105, 114, 115, 116]⟩] _ _ := ap1_new (c := 0) hH3 (by omega) (fun k hk => by rcases hk with hk | hk; exact hk.elim; omega) hB03 _ qTwo ⟨#[102, 105, 114, 115, 116]⟩ _ 1 ⟨by decide, by decide⟩ hl3
  go_wp2_with fail
  refine hnw.mono ?_
  clear hnw hl3 hH2 hH3 hB2 hB3 hB1 hB02 hz1 hz2 hz3
  rintro e w4 ⟨ab, rfl, hA, hB4⟩
  have HA := Lib.hid hA
  clear hB03 hA hB4
  go_wp2_with fail
  go_loopg [9] 3 (fun g s9 wr => AFRel1 w hb ab g s9 wr)
  case atStart => exact ⟨0, _, rfl, by omega, rfl, HA.out⟩
  case round =>
    clear HA
    obtain ⟨i, V, rfl, hi, rfl, hA⟩ := hrel
    by_cases hi3 : i < 3
    · obtain ⟨qk, qu, qe, qp, qs, qn, qd, hr, hds⟩ := (stF i).2.ask_form (by rw [stF_txt]; decide) rfl
      have Hr := Lib.hid hr
      have i0 : (i : Int) < 3 := by omega
      have i1 : (0 : Int) ≤ i := by omega
      generalize (stF i).2.ask.2 = bq at *
      go_wp2_with fail
      refine (ap1_ask hA).mono ?_
      rw [hr]
      rintro e W1 ⟨rfl, hB1⟩
      have hA1 := hA.below' hB1
      clear hA hB1
      skip
      simp only [qV, Esch.p0, List.length_nil]
      go_wp2_with fail
      obtain ⟨W2, hW2, hB2, hz2, b0, b1, b2, b3, b4, b5, b6, b7, b8⟩ := ask_box W1 (.int .i64 qk) (.int .i64 qu) (.int .i64 qe) (.int .i64 qp) (.int .i64 qs) (.int .i64 qn) (.string qd) (.int .i64 0) (.slice none 0 0)
      rw [← hW2]
      have hA2 := hA1.below' hB2
      clear hW2 hz2 hB2 hA1
      have hc := ap1_hand hA2 (by omega) ⟨qk, qu, qe, qp, qs, qn, qd, Esch.p0⟩ rfl hds 0
      obtain ⟨⟨⟨x, xb⟩, hd'⟩, hxr⟩ : ∃ r, r = (stF i).1.ask ⟨qk, qu, qe, qp, qs, qn, qd, Esch.p0⟩ 0 := ⟨_, rfl⟩
      rw [← hxr] at hc
      simp only [qV, Esch.p0, List.length_nil] at hc
      have Hxr := Lib.hid hxr
      have hab := hA2.ablt
      clear hA2 hxr
      go_wp2_with fail
      refine hc.mono ?_
      clear hc b0 b1 b2 b3 b4 b5 b6 b7 b8
      rintro e W3 ⟨xa, xcc, rfl, hl3, hA3, -⟩
      have hh := ap1_hear hA3 x xa xcc xb _ hl3 (fun k hk e => by have hk : W2.heap.size ≤ k := hk; omega)
      obtain ⟨xc, xn, xd, ⟨xpe, xls⟩, xm, xs, xe⟩ := x
      simp only [aV] at hh ⊢
      clear hl3 hA3 hab
      go_wp2_with fail
      refine hh.mono ?_
      clear hh
      rintro e W4 ⟨rfl, hA4, -⟩
      have HA4 := Lib.hid hA4
      clear hA4
      go_wp2_with fail
      go_roundg (3 - (i + 1))
      case measure => omega
      case rel =>
        have e : stF (i + 1) = (hd', (stF i).2.hear ⟨xc, xn, xd, ⟨xpe, xls⟩, xm, xs, xe⟩ xb) := by
          show apTurn (stF i) 0 = _
          unfold apTurn
          rw [Hr.out, ← Hxr.out]
        exact ⟨i + 1, _, rfl, by omega, by go_num, HA4.out.cast e⟩
    · obtain rfl : i = 3 := by omega
      clear hi hi3
      have HA := Lib.hid hA
      clear hA
      go_wp2_with fail
      refine (two15_any _).mono ?_
      rintro e w5 ⟨b5, rfl, hl5, hB5⟩
      have hA5 := HA.out.below' hB5
      obtain ⟨⟨U, S, T, hH5, hT5, -, -, -, hv5⟩, -, -, ho5, hB05⟩ := hA5
      have hnw : Calls Tryz.prog 14 #[.agg #[.int .i64 0, .slice (some ⟨b5, 0, none⟩) 1 1], .string rec] _ _ := ap1_new (c := 3) hH5 (by omega) (fun k hk => ho5 k (hv5 k (Or.inl hk))) hB05 _ qTwo rec _ 1 ⟨by decide, by decide⟩ hl5
      clear hl5 hB5 hH5 hT5 hv5 ho5 hB05 HA
      go_wp2_with fail
      refine hnw.mono ?_
      clear hnw
      rintro e w6 ⟨ab2, rfl, hA, -⟩
      have HA := Lib.hid hA
      clear hA
      go_wp2_with fail
      rw [Hk.out]
      go_loopg [14] 10 (fun g s14 wr => AFRel2 rec k w hb ab2 g s14 wr)
      case atStart => exact ⟨0, _, rfl, by omega, rfl, HA.out⟩
      case round =>
        clear HA
        obtain ⟨i, V, rfl, hi, rfl, hA⟩ := hrel
        by_cases hi3 : i < 10
        · obtain ⟨bq, hbq⟩ : ∃ bq, (stA rec k i).2.ask.2 = bq := ⟨_, rfl⟩
          obtain ⟨qk, qu, qe, qp, qs, qn, qd, hr, hds⟩ := (stA rec k i).2.ask_form (by rw [stA_txt k Hrec.out]; have := Hrec.out; omega) hbq
          have Hr := Lib.hid hr
          have i0 : (i : Int) < 10 := by omega
          have i1 : (0 : Int) ≤ i := by omega
          cases bq
          · have Hbq := Lib.hid hbq
            clear hbq
            have HA := Lib.hid hA
            go_wp2_with fail
            refine (ap1_ask hA).mono ?_
            rw [hr]
            rintro e W1 ⟨rfl, hB1⟩
            have hA1 := HA.out.below' hB1
            clear hA HA hB1
            simp only [qV, Esch.p0, List.length_nil]
            go_wp2_with fail
            obtain ⟨W2, hW2, hB2, hz2, -⟩ := ask_box W1 (.int .i64 qk) (.int .i64 qu) (.int .i64 qe) (.int .i64 qp) (.int .i64 qs) (.int .i64 qn) (.string qd) (.int .i64 0) (.slice none 0 0)
            rw [← hW2]
            have hA := hA1.below' hB2
            clear hW2 hz2 hB2 hA1 hr Hr hds
            have hov := ap1_over hA
            rw [stA_at Hrec.out i (Or.inl Hbq.out)] at hov
            have HA := Lib.hid hA
            clear hA
            obtain ⟨ad, had⟩ : ∃ ad, ad = (stA rec k i).2.addr := ⟨_, rfl⟩
            rw [← had] at hov
            clear had
            go_wp2_with fail
            refine hov.mono ?_
            clear hov
            rintro e w6 ⟨rfl, hM6⟩
            have hBe : Below w.heap.size w w6 := HA.out.below.trans (hM6.below_at HA.out.below.size (fun _ _ h => h))
            have HBe := Lib.hid hBe
            clear hM6 hBe
            by_cases hk1 : 1 ≤ k
            · rw [if_pos hk1]
              have hk1' : (1 : Int) ≤ k := by omega
              go_wp2_with fail
              refine (wakes15_any _).mono ?_
              rintro e w7 ⟨rfl, hB7⟩
              go_wp2_with fail
              go_ret
              exact ⟨rfl, HBe.out.trans (hB7.mono HBe.out.size)⟩
            · rw [if_neg hk1]
              have hk1' : (k : Int) < 1 := by omega
              go_wp2_with fail
              refine (wakes15_any _).mono ?_
              rintro e w7 ⟨rfl, hB7⟩
              go_wp2_with fail
              go_ret
              exact ⟨rfl, HBe.out.trans (hB7.mono HBe.out.size)⟩
          · by_cases hqk : qk = 1 ∧ i ≤ k
            · have hfq : fateA k i (stA rec k i) = 1 := by unfold fateA; rw [hr, if_pos hqk]
              obtain ⟨hq1, hik⟩ := hqk
              have hq1' : (qk == 1) = true := by simpa using hq1
              have hik' : decide (i ≤ k) = true := by simpa using hik
              have hqk := hbq
              clear hq1
              clear hbq
              clear hqk
              have Hfq := Lib.hid hfq
              clear hfq
              go_wp2_with fail
              refine (ap1_ask hA).mono ?_
              rw [hr]
              rintro e W1 ⟨rfl, hB1⟩
              have hA1 := hA.below' hB1
              clear hA hB1
              skip
              simp only [qV, Esch.p0, List.length_nil]
              go_wp2_with fail
              obtain ⟨W2, hW2, hB2, hz2, b0, b1, b2, b3, b4, b5, b6, b7, b8⟩ := ask_box W1 (.int .i64 qk) (.int .i64 qu) (.int .i64 qe) (.int .i64 qp) (.int .i64 qs) (.int .i64 qn) (.string qd) (.int .i64 0) (.slice none 0 0)
              rw [← hW2]
              have hA2 := hA1.below' hB2
              clear hW2 hz2 hB2 hA1
              have hc := ap1_hand hA2 (by omega) ⟨qk, qu, qe, qp, qs, qn, qd, Esch.p0⟩ rfl hds 1
              obtain ⟨⟨⟨x, xb⟩, hd'⟩, hxr⟩ : ∃ r, r = (stA rec k i).1.ask ⟨qk, qu, qe, qp, qs, qn, qd, Esch.p0⟩ 1 := ⟨_, rfl⟩
              rw [← hxr] at hc
              simp only [qV, Esch.p0, List.length_nil] at hc
              have Hxr := Lib.hid hxr
              have hab := hA2.ablt
              clear hA2 hxr
              go_wp2_with fail
              refine hc.mono ?_
              clear hc b0 b1 b2 b3 b4 b5 b6 b7 b8
              rintro e W3 ⟨xa, xcc, rfl, hl3, hA3, -⟩
              have hh := ap1_hear hA3 x xa xcc xb _ hl3 (fun k hk e => by have hk : W2.heap.size ≤ k := hk; omega)
              obtain ⟨xc, xn, xd, ⟨xpe, xls⟩, xm, xs, xe⟩ := x
              simp only [aV] at hh ⊢
              clear hl3 hA3 hab
              go_wp2_with fail
              refine hh.mono ?_
              clear hh
              rintro e W4 ⟨rfl, hA4, -⟩
              have HA4 := Lib.hid hA4
              clear hA4
              go_wp2_with fail
              go_roundg (10 - (i + 1))
              case measure => omega
              case rel =>
                have e : stA rec k (i + 1) = (hd', (stA rec k i).2.hear ⟨xc, xn, xd, ⟨xpe, xls⟩, xm, xs, xe⟩ xb) := by
                  show apTurn (stA rec k i) (fateA k i (stA rec k i)) = _
                  rw [Hfq.out]
                  unfold apTurn
                  rw [Hr.out, ← Hxr.out]
                exact ⟨i + 1, _, rfl, by omega, by go_num, (HA4.out.cast e).more (by omega)⟩
            · have hfq : fateA k i (stA rec k i) = 0 := by unfold fateA; rw [hr, if_neg hqk]
              by_cases hq1 : qk = 1
              · have hq1' : (qk == 1) = true := by simpa using hq1
                have hik : k < i := by omega
                have hik' : decide (i ≤ k) = false := by simpa using hik
                clear hbq hq1
                clear hqk
                have Hfq := Lib.hid hfq
                clear hfq
                go_wp2_with fail
                refine (ap1_ask hA).mono ?_
                rw [hr]
                rintro e W1 ⟨rfl, hB1⟩
                have hA1 := hA.below' hB1
                clear hA hB1
                skip
                simp only [qV, Esch.p0, List.length_nil]
                go_wp2_with fail
                obtain ⟨W2, hW2, hB2, hz2, b0, b1, b2, b3, b4, b5, b6, b7, b8⟩ := ask_box W1 (.int .i64 qk) (.int .i64 qu) (.int .i64 qe) (.int .i64 qp) (.int .i64 qs) (.int .i64 qn) (.string qd) (.int .i64 0) (.slice none 0 0)
                rw [← hW2]
                have hA2 := hA1.below' hB2
                clear hW2 hz2 hB2 hA1
                have hc := ap1_hand hA2 (by omega) ⟨qk, qu, qe, qp, qs, qn, qd, Esch.p0⟩ rfl hds 0
                obtain ⟨⟨⟨x, xb⟩, hd'⟩, hxr⟩ : ∃ r, r = (stA rec k i).1.ask ⟨qk, qu, qe, qp, qs, qn, qd, Esch.p0⟩ 0 := ⟨_, rfl⟩
                rw [← hxr] at hc
                simp only [qV, Esch.p0, List.length_nil] at hc
                have Hxr := Lib.hid hxr
                have hab := hA2.ablt
                clear hA2 hxr
                go_wp2_with fail
                refine hc.mono ?_
                clear hc b0 b1 b2 b3 b4 b5 b6 b7 b8
                rintro e W3 ⟨xa, xcc, rfl, hl3, hA3, -⟩
                have hh := ap1_hear hA3 x xa xcc xb _ hl3 (fun k hk e => by have hk : W2.heap.size ≤ k := hk; omega)
                obtain ⟨xc, xn, xd, ⟨xpe, xls⟩, xm, xs, xe⟩ := x
                simp only [aV] at hh ⊢
                clear hl3 hA3 hab
                go_wp2_with fail
                refine hh.mono ?_
                clear hh
                rintro e W4 ⟨rfl, hA4, -⟩
                have HA4 := Lib.hid hA4
                clear hA4
                go_wp2_with fail
                go_roundg (10 - (i + 1))
                case measure => omega
                case rel =>
                  have e : stA rec k (i + 1) = (hd', (stA rec k i).2.hear ⟨xc, xn, xd, ⟨xpe, xls⟩, xm, xs, xe⟩ xb) := by
                    show apTurn (stA rec k i) (fateA k i (stA rec k i)) = _
                    rw [Hfq.out]
                    unfold apTurn
                    rw [Hr.out, ← Hxr.out]
                  exact ⟨i + 1, _, rfl, by omega, by go_num, (HA4.out.cast e).more (by omega)⟩
              · have hq1' : (qk == 1) = false := by simpa using hq1
                clear hbq hq1
                clear hqk
                have Hfq := Lib.hid hfq
                clear hfq
                go_wp2_with fail
                refine (ap1_ask hA).mono ?_
                rw [hr]
                rintro e W1 ⟨rfl, hB1⟩
                have hA1 := hA.below' hB1
                clear hA hB1
                skip
                simp only [qV, Esch.p0, List.length_nil]
                go_wp2_with fail
                obtain ⟨W2, hW2, hB2, hz2, b0, b1, b2, b3, b4, b5, b6, b7, b8⟩ := ask_box W1 (.int .i64 qk) (.int .i64 qu) (.int .i64 qe) (.int .i64 qp) (.int .i64 qs) (.int .i64 qn) (.string qd) (.int .i64 0) (.slice none 0 0)
                rw [← hW2]
                have hA2 := hA1.below' hB2
                clear hW2 hz2 hB2 hA1
                have hc := ap1_hand hA2 (by omega) ⟨qk, qu, qe, qp, qs, qn, qd, Esch.p0⟩ rfl hds 0
                obtain ⟨⟨⟨x, xb⟩, hd'⟩, hxr⟩ : ∃ r, r = (stA rec k i).1.ask ⟨qk, qu, qe, qp, qs, qn, qd, Esch.p0⟩ 0 := ⟨_, rfl⟩
                rw [← hxr] at hc
                simp only [qV, Esch.p0, List.length_nil] at hc
                have Hxr := Lib.hid hxr
                have hab := hA2.ablt
                clear hA2 hxr
                go_wp2_with fail
                refine hc.mono ?_
                clear hc b0 b1 b2 b3 b4 b5 b6 b7 b8
                rintro e W3 ⟨xa, xcc, rfl, hl3, hA3, -⟩
                have hh := ap1_hear hA3 x xa xcc xb _ hl3 (fun k hk e => by have hk : W2.heap.size ≤ k := hk; omega)
                obtain ⟨xc, xn, xd, ⟨xpe, xls⟩, xm, xs, xe⟩ := x
                simp only [aV] at hh ⊢
                clear hl3 hA3 hab
                go_wp2_with fail
                refine hh.mono ?_
                clear hh
                rintro e W4 ⟨rfl, hA4, -⟩
                have HA4 := Lib.hid hA4
                clear hA4
                go_wp2_with fail
                go_roundg (10 - (i + 1))
                case measure => omega
                case rel =>
                  have e : stA rec k (i + 1) = (hd', (stA rec k i).2.hear ⟨xc, xn, xd, ⟨xpe, xls⟩, xm, xs, xe⟩ xb) := by
                    show apTurn (stA rec k i) (fateA k i (stA rec k i)) = _
                    rw [Hfq.out]
                    unfold apTurn
                    rw [Hr.out, ← Hxr.out]
                  exact ⟨i + 1, _, rfl, by omega, by go_num, (HA4.out.cast e).more (by omega)⟩
        · obtain rfl : i = 10 := by omega
          clear hi3
          have hov := ap1_over hA
          rw [stA_at Hrec.out 10 (Or.inr (by omega))] at hov
          have HA := Lib.hid hA
          clear hA
          obtain ⟨ad, had⟩ : ∃ ad, ad = (stA rec k 10).2.addr := ⟨_, rfl⟩
          rw [← had] at hov
          clear had
          go_wp2_with fail
          refine hov.mono ?_
          clear hov
          rintro e w6 ⟨rfl, hM6⟩
          have hBe : Below w.heap.size w w6 := HA.out.below.trans (hM6.below_at HA.out.below.size (fun _ _ h => h))
          have HBe := Lib.hid hBe
          clear hM6 hBe
          by_cases hk1 : 1 ≤ k
          · rw [if_pos hk1]
            have hk1' : (1 : Int) ≤ k := by omega
            go_wp2_with fail
            refine (wakes15_any _).mono ?_
            rintro e w7 ⟨rfl, hB7⟩
            go_wp2_with fail
            go_ret
            exact ⟨rfl, HBe.out.trans (hB7.mono HBe.out.size)⟩
          · rw [if_neg hk1]
            have hk1' : (k : Int) < 1 := by omega
            go_wp2_with fail
            refine (wakes15_any _).mono ?_
            rintro e w7 ⟨rfl, hB7⟩
            go_wp2_with fail
            go_ret
            exact ⟨rfl, HBe.out.trans (hB7.mono HBe.out.size)⟩
set_option maxRecDepth 100000 in
set_option maxHeartbeats 2000000 in
theorem appendFull_lifted (os : Os) (started : os.Started) (H : Type) (enc : TypeId × Value → H) :
    ReturnsInHanded {} Tryz.checked os 4 .any (Rows.appendFullSpec.pre6 enc Tryz.prog Tryz.f4 Rows.appendFullRow.domain false) (Rows.appendFullSpec.post enc Tryz.prog Tryz.f4 false true false false) := by
  refine returnsInHanded_of_change (C := Tryz.checked) Tryz.ownP started (by kernel_rfl) Tryz.func4
    (ChangeSpec.witness6 (enc := enc) (C := Tryz.checked) false ⟨#[], #[.string ⟨#[]⟩, .int .u8 0], []⟩ 8 (by kernel_rfl) (by kernel_rfl) (by kernel_rfl) (by kernel_rfl)) ?_
  intro W base args ds gs before hval0 hW hcnd _
  have hval : ∀ (j : Nat) t v, Tryz.f4.params[j]? = some t → args[j]? = some v → Value.okWide Tryz.prog W .any base t v := hval0
  have hW' := hW
  obtain ⟨p, q, hA0, hV, rfl, hfz, hnd⟩ := hW
  have hA : DataW.TrodAll enc Tryz.prog W 0 (fun _ => true) true Tryz.f4.params.toList args.toList ds p := hA0
  rw [Tryz.params4] at hA hval
  obtain ⟨v0, vs0, d0, ds0, p0, q0, hargs, rfl, rfl, h0, r0⟩ := trodAll_cons hA
  obtain ⟨v1, vs1, d1, ds1, p1, q1, rfl, rfl, rfl, h1, r1⟩ := trodAll_cons r0
  obtain ⟨rfl, rfl, rfl⟩ := trodAll_nil r1
  obtain rfl : args = #[v0, v1] := by cases args; simp_all
  obtain ⟨rfl, rfl⟩ := trodVars_none hV
  obtain ⟨cs0, x0, hv0, hr0⟩ := open_arg (n := 9) (T := .str) (by kernel_rfl) (hval 0 9 v0 rfl rfl) h0
  obtain ⟨cs1, x1, hv1, hr1⟩ := open_arg (n := 9) (T := .int .u8) (by kernel_rfl) (hval 1 5 v1 rfl rfl) h1
  obtain ⟨rec, rfl, rfl, hsz⟩ := rd_str.1 hr0
  simp only [Ty.isStruct, Bool.false_eq_true, if_false] at hv0
  obtain ⟨kv, rfl, rfl, hk0, hk1⟩ := rd_int.1 hr1
  simp only [Ty.isStruct, Bool.false_eq_true, if_false] at hv1
  subst hv0
  subst hv1
  clear hA0 hval0
  refine (appendFull_walk rec (by unfold Go.maxLen at hsz; omega) kv hk0 hk1 W).mono fun e W' ⟨he, hb⟩ => ?_
  subst he
  exact ⟨_, rfl, law_post Tryz.laidOutP (by kernel_rfl) rfl Tryz.underlying4 hW' rfl rfl rfl rfl hb⟩

theorem appendFull_holds : Rows.AppendFullSaid :=
  OpenClaim.holds_of_wide 4 Tryz.f4 rfl rfl rfl rfl rfl rfl rfl ⟨rfl, rfl, rfl, rfl, rfl⟩ rfl rfl rfl rfl rfl (by kernel_rfl) Tryz.func4 (by kernel_rfl)
    (of_decide_eq_true (by kernel_rfl)) (by unfold Func.isWrapper; first | (rw [if_pos (by decide +kernel)]; kernel_rfl) | (rw [if_neg (by decide +kernel)]; exact ⟨rfl, rfl⟩))
    (fun os started H enc _ => appendFull_lifted os started H enc)
end Go.Proofs.YtohmmjaikhpcfaaGreat
