import Derived.Test.YtpkdpmkiplopmaaEnc
import Derived.Test.YtpkdpmkiplopmaaCopy
import Derived.Test.YtpkdpmkiplopmaaOwn2
/- the projection of a text: the program's -/
namespace Go.Proofs.Ytpkdpmkiplopmaa
open Go.RowKit Esch

/-- so many numbers of one byte each -/
def decU (s : ByteArray) (b : Bool) : Nat → List Int × ByteArray × Bool
  | 0 => ([], s, b)
  | k + 1 => ((decU s b k).1 ++ [((unNum (decU s b k).2.1 (decU s b k).2.2 1).1 : Int)], (unNum (decU s b k).2.1 (decU s b k).2.2 1).2)
/-- so many chains -/
def decCs (s : ByteArray) (b : Bool) : Nat → List (List Int) × ByteArray × Bool
  | 0 => ([], s, b)
  | k + 1 =>
    let n := unNum (decCs s b k).2.1 (decCs s b k).2.2 1
    ((decCs s b k).1 ++ [(decU n.2.1 n.2.2 (min n.1 5)).1], (decU n.2.1 n.2.2 (min n.1 5)).2)
def decAll (s : ByteArray) : Proj × ByteArray × Bool :=
  let e := unNum s false 4
  let n := unNum e.2.1 e.2.2 1
  let r := decCs n.2.1 n.2.2 (min n.1 5)
  (⟨e.1, r.1⟩, r.2)
def decOk (s : ByteArray) : Prop := (decAll s).2.2 = false ∧ (decAll s).2.1.size = 0 ∧ (decAll s).1.good
theorem decU_len (s : ByteArray) (b : Bool) : ∀ k, (decU s b k).1.length = k
  | 0 => rfl
  | k + 1 => by simp [decU, decU_len s b k]
theorem decCs_len (s : ByteArray) (b : Bool) : ∀ k, (decCs s b k).1.length = k
  | 0 => rfl
  | k + 1 => by simp [decCs, decCs_len s b k]
theorem unNum_le (s : ByteArray) (b : Bool) : (unNum s b 1).1 ≤ 255 := by
  unfold unNum
  split
  · simp
  · split
    · simp
    · have := getB_lt (cutB s 0 1)
      have h2 : (cutB s 0 1).length ≤ 1 := by unfold cutB; exact List.length_take_le 1 _
      have h3 : 256 ^ (cutB s 0 1).length ≤ 256 ^ 1 := Nat.pow_le_pow_right (by decide) h2
      show getB (cutB s 0 1) ≤ 255
      omega
theorem UnpAt.mod {F : Nat → Prop} {w w' : World} {b : Nat} {s : ByteArray} {bad : Bool} (h : UnpAt w b s bad) (hM : Mod F w w') (hb : ¬ F b) : UnpAt w' b s bad :=
  ⟨hM.at h.c0 hb, hM.at h.c1 hb, (hM.frozen (p := ⟨b, 0, none⟩) (cell_lt h.c0) hb).trans h.f0, (hM.frozen (p := ⟨b, 1, none⟩) (cell_lt h.c0) hb).trans h.f1, h.size⟩
theorem oneBoxD (w : World) (T : TypeId) (x0 x1 : Value) : ∃ W0, W0 = w.alloc (.cells #[x0, x1] T) ∧ Below w.heap.size w W0 ∧ W0.heap.size = w.heap.size + 1 ∧ W0.cell? ⟨w.heap.size, 0, none⟩ = some x0 ∧ W0.cell? ⟨w.heap.size, 1, none⟩ = some x1 :=
  ⟨_, rfl, by (repeat (first | with_reducible exact (Below.refl _ _) | with_reducible refine Below.drew ?_ | with_reducible refine Esch.below_drewN ?_ _ | with_reducible refine Below.setCell ?_ (by first | omega | (simp; done) | (simp; omega)) _ | with_reducible refine Below.alloc ?_ (by first | omega | (simp; done) | (simp; omega)) _)), by simp, by go_simp, by go_simp⟩
theorem CopyAt.mod {w0 w w' : World} {qb b : Nat} {ep : Int} {va : Option Addr} {vc : Nat} {xs : List Value} {ls : List (List Int)} (h : CopyAt w0 qb (qb + 1) ep va vc xs ls w) (hM : Mod (· = b) w w') (hb : b < qb) (hw : w0.heap.size ≤ b) : CopyAt w0 qb (qb + 1) ep va vc xs ls w' := by
  have hl := cell_lt h.c0
  have h0 := h.below.size
  refine ⟨hM.at h.c0 (by omega), hM.at h.c1 (by omega), (hM.frozen (p := ⟨qb, 1, none⟩) hl (by show qb ≠ b; omega)).trans h.f1, ?_, ?_, h.below.trans (hM.below_at h0 (fun k hk e => by omega))⟩
  · refine ⟨h.row.1, h.row.2.imp id ?_⟩
    rintro ⟨g, cap, cur, h1, h2, h3, h4⟩
    exact ⟨g, cap, cur, h1, h2, (hM.block g (block_lt h3) (by omega)).trans h3, h4⟩
  · refine ⟨h.heads.1, fun i hi => ?_⟩
    obtain ⟨ia, ic, h1, h2, h3⟩ := h.heads.2 i hi
    exact ⟨ia, ic, h1, h2.mod hM (fun k hk _ e => by have := hk.1; omega), h3⟩
/-- w5 with block b as it is in w6 -/
theorem only_b {w5 w6 : World} {b : Nat} (hM : Mod (· = b) w5 w6) : ∃ w5', Mod (· = b) w5 w5' ∧ Below w5.heap.size w5' w6 ∧ w5'.heap.size = w5.heap.size := by
  rcases Nat.lt_or_ge b w5.heap.size with hb | hb
  · have hb6 : b < w6.heap.size := Nat.lt_of_lt_of_le hb hM.size
    refine ⟨putObj w5 b w6.heap[b], ⟨rfl, rfl, rfl, by simp, fun k hk hne => putObj_other _ _ _ _ hne⟩, ⟨hM.os, hM.tape, hM.output, by simpa using hM.size, fun k hk => ?_⟩, by simp⟩
    by_cases e : k = b
    · subst e
      rw [Array.getElem?_eq_getElem hb6]
      simp [putObj, Array.getElem?_setIfInBounds_self_of_lt hb]
    · rw [putObj_other _ _ _ _ e, hM.block k hk e]
  · exact ⟨w5, Mod.refl _ _, hM.below_at (Nat.le_refl _) (fun k hk e => by omega), rfl⟩
theorem grown_mod2 {w w' : World} {row : Option Nat} (h : w.grownBy w' row) : Mod (fun j => row = some j) w w' :=
  ⟨h.os, h.tape, h.output, h.size, fun k hk hne => h.block k hk (fun e => hne e.symm)⟩
theorem grown_at {w w' : World} {row : Option Nat} (h : w.grownBy w' row) {b o : Nat} {v : Value} (hr : row ≠ some b) (hc : w.cell? ⟨b, o, none⟩ = some v) : w'.cell? ⟨b, o, none⟩ = some v := (grown_mod2 h).at hc hr
theorem grown_fr {w w' : World} {row : Option Nat} (h : w.grownBy w' row) {b o : Nat} (hr : row ≠ some b) (hb : b < w.heap.size) : w'.frozen? ⟨b, o, none⟩ = w.frozen? ⟨b, o, none⟩ := (grown_mod2 h).frozen (p := ⟨b, o, none⟩) hb hr
def DecRel (w : World) (b pb : Nat) (ep : Int) (s : ByteArray) (bad : Bool) (n g : Nat) (s15 : Value) (wr : World) : Prop :=
  ∃ (k : Nat) (va : Option Addr) (vc : Nat) (xs : List Value), g = n - k ∧ k ≤ n ∧ s15 = .int .i64 k ∧ UnpAt wr b (decCs s bad k).2.1 (decCs s bad k).2.2 ∧ CopyAt w pb (pb + 1) ep va vc xs (decCs s bad k).1 wr
def DecIn (w5 : World) (b : Nat) (s : ByteArray) (bad : Bool) (n g : Nat) (s6 s20 : Value) (wr : World) : Prop :=
  ∃ k : Nat, g = n - k ∧ k ≤ n ∧ s20 = .int .i64 k ∧ UnpAt wr b (decU s bad k).2.1 (decU s bad k).2.2 ∧ OwnI wr w5.heap.size s6 (decU s bad k).1 ∧ Mod (· = b) w5 wr
set_option maxRecDepth 100000 in
set_option maxHeartbeats 4000000 in
theorem dec_any (w : World) (s : ByteArray) (hs : s.size ≤ 9223372036854775807) :
    Calls Try.prog 17 #[.string s] w fun e w' => ∃ a c, (e = .returned (.tuple #[.agg #[.int .i64 (decAll s).1.epoch, .slice a (decAll s).1.chains.length c], .int .i64 0]) ∧ decOk s ∧ ListsAt (From w.heap.size) w' a (decAll s).1.chains ∨
      e = .returned (.tuple #[.agg #[.int .i64 0, .slice none 0 0], .int .i64 11]) ∧ ¬ decOk s) ∧ Below w.heap.size w w' := by
  obtain ⟨W0, hW0, hB0, hz0, rc0, rc1⟩ := oneBoxD w 24 (.int .i64 0) (.slice none 0 0)
  have rf0 : W0.frozen? ⟨w.heap.size, 0, none⟩ = false := by rw [hW0]; go_simp
  have rf1 : W0.frozen? ⟨w.heap.size, 1, none⟩ = false := by rw [hW0]; go_simp
  have HR0 := Lib.hid rc0
  have HR1 := Lib.hid rc1
  have HF0 := Lib.hid rf0
  have HF1 := Lib.hid rf1
  clear rc0 rc1 rf0 rf1
  have hop := open_any W0 s hs
  have HW0 := Lib.hid hW0
  clear hW0
  go_enter Try.func17, Try.ntmps17
  go_wp2_with fail
  rw [← HW0.out]
  refine hop.mono ?_
  clear hop
  rintro e w1 ⟨b, rfl, hU1, hb, hB1⟩
  have hz1 := hB1.size
  have hbl1 : b < w1.heap.size := cell_lt hU1.c0
  have hn4 : Calls Try.prog 52 #[.pointer (some ⟨b, 0, none⟩), .int .i64 4] w1 (NumPost w1 b (unNum s false 4)) := unNum_any w1 b s false 4 rfl hU1
  have hBw1 := hB1
  clear hU1
  go_wp2_with fail
  refine hn4.mono ?_
  clear hn4
  rintro e w2 ⟨rfl, hU2, hM2⟩
  have hz2 := hM2.size
  obtain ⟨⟨en, s2, b2⟩, hr2⟩ : ∃ r, r = unNum s false 4 := ⟨_, rfl⟩
  rw [← hr2] at hU2
  have Hr2 := Lib.hid hr2
  rw [← hr2]
  clear hr2
  simp only at hU2
  obtain ⟨pb, hpb⟩ : ∃ pb, pb = w2.heap.size := ⟨_, rfl⟩
  obtain ⟨w3, hw3, hB3, hz3, p0, p1⟩ := oneBoxD w2 24 (.int .i64 en) (.slice none 0 0)
  have pf1 : w3.frozen? ⟨w2.heap.size, 1, none⟩ = false := by rw [hw3]; go_simp
  rw [← hpb] at p0 p1 pf1
  have HW3 := Lib.hid hw3
  have hU3 := hU2.mod (F := none') (Mod.of_below hB3) id
  have hn1 : Calls Try.prog 52 #[.pointer (some ⟨b, 0, none⟩), .int .i64 1] w3 (NumPost w3 b (unNum s2 b2 1)) := unNum_any w3 b s2 b2 1 rfl hU3
  clear hw3 hU2 hU3
  have Hpb := Lib.hid hpb
  have hpb1 : w2.heap.size ≤ pb := by omega
  have hpb2 : pb ≤ w2.heap.size := by omega
  clear hpb
  go_wp2_with fail
  rw [← HW3.out]
  rw [← Hpb.out]
  refine hn1.mono ?_
  clear hn1
  rintro e w4 ⟨rfl, hU4, hM4⟩
  have hz4 := hM4.size
  have hle := unNum_le s2 b2
  obtain ⟨⟨cn, s4, b4⟩, hr4⟩ : ∃ r, r = unNum s2 b2 1 := ⟨_, rfl⟩
  rw [← hr4] at hU4 hle
  have Hr4 := Lib.hid hr4
  rw [← hr4]
  clear hr4
  simp only at hU4 hle
  replace p0 := hM4.at p0 (by omega)
  replace p1 := hM4.at p1 (by omega)
  have pf1 := (hM4.frozen (p := ⟨pb, 1, none⟩) (by show pb < w3.heap.size; omega) (by show pb ≠ b; omega)).trans pf1
  have hBw4 : Below W0.heap.size W0 w4 := (((hBw1.trans (hM2.below_at hBw1.size (fun k hk e => by omega))).trans (hB3.mono (by have := hBw1.size; omega)))).trans (hM4.below_at (by have := hBw1.size; omega) (fun k hk e => by omega))
  have hC4 : CopyAt W0 pb (pb + 1) en none 0 [] [] w4 := ⟨p0, p1, pf1, World.ownsRow_nil _ _ _ _, HeadsOf.nil _ _, hBw4⟩
  have HC4 := Lib.hid hC4
  have HU4 := Lib.hid hU4
  have hwb : W0.heap.size ≤ b := by omega
  have hbpb : b < pb := by omega
  clear hB1 hM2 hB3 hM4 p0 p1 pf1 hC4 hU4 HW3 Hpb hz1 hz2 hz3 hz4
  by_cases h5 : cn ≤ 5
  · have hmin : Hid (min cn 5 = cn) := Lib.hid (Nat.min_eq_left h5)
    go_wp2_with fail
    go_loopg [15] cn (fun g s15 wr => DecRel W0 b pb en s4 b4 cn g s15 wr)
    case atStart => exact ⟨0, none, 0, [], rfl, Nat.zero_le _, rfl, HU4.out, HC4.out⟩
    case round =>
      obtain ⟨k, va, vc, xs, rfl, hk, rfl, hUr, hCr⟩ := hrel
      by_cases hlt : k < cn
      · have hnr : Calls Try.prog 52 #[.pointer (some ⟨b, 0, none⟩), .int .i64 1] wr (NumPost wr b (unNum (decCs s4 b4 k).2.1 (decCs s4 b4 k).2.2 1)) := unNum_any wr b _ _ 1 rfl hUr
        clear hUr
        have HCr := Lib.hid hCr
        clear hCr
        go_wp2_with fail
        refine hnr.mono ?_
        clear hnr
        rintro e w5 ⟨rfl, hU5, hM5⟩
        have hle5 := unNum_le (decCs s4 b4 k).2.1 (decCs s4 b4 k).2.2
        have hC5 := HCr.out.mod hM5 hbpb (by omega)
        have hdc : ∀ m, m = min (unNum (decCs s4 b4 k).2.1 (decCs s4 b4 k).2.2 1).1 5 → decCs s4 b4 (k + 1) = ((decCs s4 b4 k).1 ++ [(decU (unNum (decCs s4 b4 k).2.1 (decCs s4 b4 k).2.2 1).2.1 (unNum (decCs s4 b4 k).2.1 (decCs s4 b4 k).2.2 1).2.2 m).1], (decU (unNum (decCs s4 b4 k).2.1 (decCs s4 b4 k).2.2 1).2.1 (unNum (decCs s4 b4 k).2.1 (decCs s4 b4 k).2.2 1).2.2 m).2) := fun m hm => by rw [hm]; rfl
        have hlk := decCs_len s4 b4 k
        generalize (decCs s4 b4 k).1 = lsk at hC5 hdc hlk
        obtain ⟨⟨un, s5, b5⟩, hr5⟩ : ∃ r, r = unNum (decCs s4 b4 k).2.1 (decCs s4 b4 k).2.2 1 := ⟨_, rfl⟩
        rw [← hr5] at hU5 hle5 hdc
        rw [← hr5]
        simp only at hU5 hle5 hdc
        have Hdc := Lib.hid hdc
        have HC5 := Lib.hid hC5
        have HU5 := Lib.hid hU5
        clear hr5 hdc hC5 hU5 hM5 HCr
        by_cases h6 : un ≤ 5
        · have hmin5 : Hid (un = min un 5) := Lib.hid (Nat.min_eq_left h6).symm
          go_wp2_with fail
          go_loopg [6, 20] un (fun g s6 s20 wr => DecIn w5 b s5 b5 un g s6 s20 wr)
          case atStart => exact ⟨0, rfl, Nat.zero_le _, rfl, HU5.out, OwnI.nil _ _, Mod.refl _ _⟩
          case round =>
            obtain ⟨k2, rfl, hk2, rfl, hUi, hOi, hMi⟩ := hrel
            have hdl := decU_len s5 b5 k2
            have hb5 : b < w5.heap.size := cell_lt HU5.out.c0
            by_cases hlt2 : k2 < un
            · have hni : Calls Try.prog 52 #[.pointer (some ⟨b, 0, none⟩), .int .i64 1] wr (NumPost wr b (unNum (decU s5 b5 k2).2.1 (decU s5 b5 k2).2.2 1)) := unNum_any wr b _ _ 1 rfl hUi
              have hdu : decU s5 b5 (k2 + 1) = ((decU s5 b5 k2).1 ++ [((unNum (decU s5 b5 k2).2.1 (decU s5 b5 k2).2.2 1).1 : Int)], (unNum (decU s5 b5 k2).2.1 (decU s5 b5 k2).2.2 1).2) := rfl
              obtain ⟨⟨xn, s6, b6⟩, hr6⟩ : ∃ r, r = unNum (decU s5 b5 k2).2.1 (decU s5 b5 k2).2.2 1 := ⟨_, rfl⟩
              rw [← hr6] at hni hdu
              simp only at hdu
              generalize (decU s5 b5 k2).1 = L at hOi hdl hdu
              have Hdu := Lib.hid hdu
              obtain ⟨va6, vc6, rfl, -⟩ := hOi.ints
              have HOi := Lib.hid hOi
              have HMi := Lib.hid hMi
              have hzi := hMi.size
              have Hdl := Lib.hid hdl
              have hL6 : L.length ≤ 6 := by omega
              clear hUi hOi hMi hdu hr6 hdl
              go_wp2_with fail
              refine hni.mono ?_
              clear hni
              rintro e w7 ⟨rfl, hU7, hM7⟩
              simp only at hU7
              have hz7 := hM7.size
              have hO7 : OwnI w7 w5.heap.size (.slice va6 L.length vc6) L := grown_mod hM7 (fun j hj e => by have := (HOi.out.lt hj).1; omega) (fun j hj => (HOi.out.lt hj).2) HOi.out
              have hsrc := IntsAt.new w7 xn 3
              have HU7 := Lib.hid hU7
              have HO7 := Lib.hid hO7
              have HM7 := Lib.hid hM7
              clear hU7 hO7 hM7
              go_wp2_with (at_builtin; refine wpList_appendO rfl (.tmp 22) (.tmp 25) rfl (· = w7.heap.size) w5.heap.size (.slice va6 L.length vc6) L [(xn : Int)] _ 1 1 rfl rfl rfl (HO7.out.alloc _) hsrc (by simp only [List.length_cons, List.length_nil]; omega) (by rw [World.size_alloc]; omega) ?_)
              intro v8 w8 hO8 hg8 hb8
              have hown := fun j (hj : (Value.slice va6 L.length vc6).ownBlock = some j) => (HO7.out.lt hj).1
              have HO8 := Lib.hid hO8
              have HU8 : Hid (UnpAt w8 b s6 b6) := Lib.hid ((HU7.out.mod (F := none') ((Mod.refl none' _).alloc _) id).mod (mod_grown hg8) (fun e => by have := hown b e; omega))
              have HM8 : Hid (Mod (· = b) w5 w8) := Lib.hid (((HMi.out.trans HM7.out).alloc _).trans' (mod_grown hg8) (fun j hj e => by have := hown j e; omega))
              clear hO8 hg8 hb8 hown
              go_wp2_with fail
              go_roundg (un - (k2 + 1))
              case measure => omega
              case rel =>
                refine ⟨k2 + 1, rfl, by omega, by go_num, ?_, ?_, HM8.out⟩
                · rw [Hdu.out]; exact HU8.out
                · rw [Hdu.out]; exact HO8.out
            · have hkn2 : k2 = un := by omega
              have hdcM := Hdc.out un hmin5.out
              rw [← hkn2] at hdcM
              generalize hLe : (decU s5 b5 k2).1 = L at hOi hdl hdcM
              obtain ⟨ja, jc, rfl, hj2, hcp1, hcp2, -⟩ := hOi.ints
              have hC6 := HC5.out.mod hMi hbpb (by omega)
              obtain ⟨w5', hMb, hBb, hzb⟩ := only_b hMi
              rw [← hzb] at hBb hj2
              have HCb := Lib.hid (HC5.out.mod hMb hbpb (by omega))
              have HBb := Lib.hid hBb
              have HJ2 := Lib.hid hj2
              have HUi := Lib.hid hUi
              have HdcM := Lib.hid hdcM
              obtain ⟨i0, hi, hz0, hz1, hz2⟩ := info_parts Try.infoInts
              have q1 := hC6.c1
              have hrow := hC6.row
              have hon := hC6.own_ne (Nat.lt_succ_self pb)
              have honb := hC6.own_ne (show b < pb + 1 by omega)
              have hf1 := hC6.f1
              have hpl : pb < wr.heap.size := cell_lt hC6.c0
              rw [hlk] at q1 hrow hon honb
              have Hrow := Lib.hid hrow
              have hL6 : L.length ≤ 6 := by omega
              have Hon := Lib.hid hon
              have Honb := Lib.hid honb
              have Hlk := Lib.hid hlk
              have hbr : b < wr.heap.size := cell_lt hUi.c0
              clear hLe hUi hOi hMi hC6 hMb hBb hj2 hdcM hzb hrow hdl hlk hon honb
              go_wp2_with (at_builtin; refine wpList_append_lies _ (by rfl) _ _ _ (by rfl) (pb + 1) 40 i0 _ 1 24 Try.underlying22 hi hz0 hz1 hz2 rfl (by omega) (.slice va k vc) k xs (by rfl) (Hrow.out.alloc _) ⟨wr.heap.size, 0, none⟩ 1 1 [.slice ja L.length jc] (by rfl) (by rfl) (World.news_of_block (cs := #[.slice ja L.length jc]) (t := 40) (fr := (0, 0)) (heap_alloc_new _ _)) (by simp [Value.oneCell']) (by omega) (by unfold Go.maxLen; omega) (by omega) (by simp; omega) (wr.heap.size + 1) (by simp) ?_; intro gg cap w8 hown1 hgrow hat hlt4; have hc8 := (grown_at hgrow (Hon.out) ((cell_alloc_lt wr _ pb 1 hpl).trans q1)); have hf8 := (grown_fr hgrow (Hon.out) (by rw [World.size_alloc]; omega)).trans ((frozen_alloc_lt wr _ pb 1 hpl).trans hf1))
              have hU8 : UnpAt (w8.setCell ⟨pb, 1, none⟩ (.slice (some ⟨gg, 0, none⟩) (k + 1) cap)) b (decU s5 b5 k2).2.1 (decU s5 b5 k2).2.2 :=
                ((HUi.out.mod (F := none') ((Mod.refl none' _).alloc _) id).mod (grown_mod2 hgrow) Honb.out).mod (F := (· = pb)) ((Mod.refl (· = pb) _).setCellAt (fun _ => rfl) _) (by omega)
              have HC8 := Lib.hid (HCb.out.step HBb.out HJ2.out hown1 hgrow hat Hlk.out (by omega) hf8 hc8 ⟨hcp1, hcp2⟩)
              have HU8 := Lib.hid hU8
              clear hU8
              go_roundg (cn - (k + 1))
              case measure => omega
              case rel =>
                refine ⟨k + 1, some ⟨gg, 0, none⟩, cap, xs ++ [.slice ja L.length jc], rfl, by omega, by go_num, ?_, ?_⟩
                · rw [HdcM.out]; exact HU8.out
                · rw [HdcM.out]; exact HC8.out
        · have hmin5 : Hid (5 = min un 5) := Lib.hid (Nat.min_eq_right (by omega)).symm
          go_wp2_with fail
          go_loopg [6, 20] 5 (fun g s6 s20 wr => DecIn w5 b s5 b5 5 g s6 s20 wr)
          case atStart => exact ⟨0, rfl, Nat.zero_le _, rfl, HU5.out, OwnI.nil _ _, Mod.refl _ _⟩
          case round =>
            obtain ⟨k2, rfl, hk2, rfl, hUi, hOi, hMi⟩ := hrel
            have hdl := decU_len s5 b5 k2
            have hb5 : b < w5.heap.size := cell_lt HU5.out.c0
            by_cases hlt2 : k2 < 5
            · have hni : Calls Try.prog 52 #[.pointer (some ⟨b, 0, none⟩), .int .i64 1] wr (NumPost wr b (unNum (decU s5 b5 k2).2.1 (decU s5 b5 k2).2.2 1)) := unNum_any wr b _ _ 1 rfl hUi
              have hdu : decU s5 b5 (k2 + 1) = ((decU s5 b5 k2).1 ++ [((unNum (decU s5 b5 k2).2.1 (decU s5 b5 k2).2.2 1).1 : Int)], (unNum (decU s5 b5 k2).2.1 (decU s5 b5 k2).2.2 1).2) := rfl
              obtain ⟨⟨xn, s6, b6⟩, hr6⟩ : ∃ r, r = unNum (decU s5 b5 k2).2.1 (decU s5 b5 k2).2.2 1 := ⟨_, rfl⟩
              rw [← hr6] at hni hdu
              simp only at hdu
              generalize (decU s5 b5 k2).1 = L at hOi hdl hdu
              have Hdu := Lib.hid hdu
              obtain ⟨va6, vc6, rfl, -⟩ := hOi.ints
              have HOi := Lib.hid hOi
              have HMi := Lib.hid hMi
              have hzi := hMi.size
              have Hdl := Lib.hid hdl
              have hL6 : L.length ≤ 6 := by omega
              clear hUi hOi hMi hdu hr6 hdl
              go_wp2_with fail
              refine hni.mono ?_
              clear hni
              rintro e w7 ⟨rfl, hU7, hM7⟩
              simp only at hU7
              have hz7 := hM7.size
              have hO7 : OwnI w7 w5.heap.size (.slice va6 L.length vc6) L := grown_mod hM7 (fun j hj e => by have := (HOi.out.lt hj).1; omega) (fun j hj => (HOi.out.lt hj).2) HOi.out
              have hsrc := IntsAt.new w7 xn 3
              have HU7 := Lib.hid hU7
              have HO7 := Lib.hid hO7
              have HM7 := Lib.hid hM7
              clear hU7 hO7 hM7
              go_wp2_with (at_builtin; refine wpList_appendO rfl (.tmp 22) (.tmp 25) rfl (· = w7.heap.size) w5.heap.size (.slice va6 L.length vc6) L [(xn : Int)] _ 1 1 rfl rfl rfl (HO7.out.alloc _) hsrc (by simp only [List.length_cons, List.length_nil]; omega) (by rw [World.size_alloc]; omega) ?_)
              intro v8 w8 hO8 hg8 hb8
              have hown := fun j (hj : (Value.slice va6 L.length vc6).ownBlock = some j) => (HO7.out.lt hj).1
              have HO8 := Lib.hid hO8
              have HU8 : Hid (UnpAt w8 b s6 b6) := Lib.hid ((HU7.out.mod (F := none') ((Mod.refl none' _).alloc _) id).mod (mod_grown hg8) (fun e => by have := hown b e; omega))
              have HM8 : Hid (Mod (· = b) w5 w8) := Lib.hid (((HMi.out.trans HM7.out).alloc _).trans' (mod_grown hg8) (fun j hj e => by have := hown j e; omega))
              clear hO8 hg8 hb8 hown
              go_wp2_with fail
              go_roundg (5 - (k2 + 1))
              case measure => omega
              case rel =>
                refine ⟨k2 + 1, rfl, by omega, by go_num, ?_, ?_, HM8.out⟩
                · rw [Hdu.out]; exact HU8.out
                · rw [Hdu.out]; exact HO8.out
            · have hkn2 : k2 = 5 := by omega
              have hdcM := Hdc.out 5 hmin5.out
              rw [← hkn2] at hdcM
              generalize hLe : (decU s5 b5 k2).1 = L at hOi hdl hdcM
              obtain ⟨ja, jc, rfl, hj2, hcp1, hcp2, -⟩ := hOi.ints
              have hC6 := HC5.out.mod hMi hbpb (by omega)
              obtain ⟨w5', hMb, hBb, hzb⟩ := only_b hMi
              rw [← hzb] at hBb hj2
              have HCb := Lib.hid (HC5.out.mod hMb hbpb (by omega))
              have HBb := Lib.hid hBb
              have HJ2 := Lib.hid hj2
              have HUi := Lib.hid hUi
              have HdcM := Lib.hid hdcM
              obtain ⟨i0, hi, hz0, hz1, hz2⟩ := info_parts Try.infoInts
              have q1 := hC6.c1
              have hrow := hC6.row
              have hon := hC6.own_ne (Nat.lt_succ_self pb)
              have honb := hC6.own_ne (show b < pb + 1 by omega)
              have hf1 := hC6.f1
              have hpl : pb < wr.heap.size := cell_lt hC6.c0
              rw [hlk] at q1 hrow hon honb
              have Hrow := Lib.hid hrow
              have hL6 : L.length ≤ 6 := by omega
              have Hon := Lib.hid hon
              have Honb := Lib.hid honb
              have Hlk := Lib.hid hlk
              have hbr : b < wr.heap.size := cell_lt hUi.c0
              clear hLe hUi hOi hMi hC6 hMb hBb hj2 hdcM hzb hrow hdl hlk hon honb
              go_wp2_with (at_builtin; refine wpList_append_lies _ (by rfl) _ _ _ (by rfl) (pb + 1) 40 i0 _ 1 24 Try.underlying22 hi hz0 hz1 hz2 rfl (by omega) (.slice va k vc) k xs (by rfl) (Hrow.out.alloc _) ⟨wr.heap.size, 0, none⟩ 1 1 [.slice ja L.length jc] (by rfl) (by rfl) (World.news_of_block (cs := #[.slice ja L.length jc]) (t := 40) (fr := (0, 0)) (heap_alloc_new _ _)) (by simp [Value.oneCell']) (by omega) (by unfold Go.maxLen; omega) (by omega) (by simp; omega) (wr.heap.size + 1) (by simp) ?_; intro gg cap w8 hown1 hgrow hat hlt4; have hc8 := (grown_at hgrow (Hon.out) ((cell_alloc_lt wr _ pb 1 hpl).trans q1)); have hf8 := (grown_fr hgrow (Hon.out) (by rw [World.size_alloc]; omega)).trans ((frozen_alloc_lt wr _ pb 1 hpl).trans hf1))
              have hU8 : UnpAt (w8.setCell ⟨pb, 1, none⟩ (.slice (some ⟨gg, 0, none⟩) (k + 1) cap)) b (decU s5 b5 k2).2.1 (decU s5 b5 k2).2.2 :=
                ((HUi.out.mod (F := none') ((Mod.refl none' _).alloc _) id).mod (grown_mod2 hgrow) Honb.out).mod (F := (· = pb)) ((Mod.refl (· = pb) _).setCellAt (fun _ => rfl) _) (by omega)
              have HC8 := Lib.hid (HCb.out.step HBb.out HJ2.out hown1 hgrow hat Hlk.out (by omega) hf8 hc8 ⟨hcp1, hcp2⟩)
              have HU8 := Lib.hid hU8
              clear hU8
              go_roundg (cn - (k + 1))
              case measure => omega
              case rel =>
                refine ⟨k + 1, some ⟨gg, 0, none⟩, cap, xs ++ [.slice ja L.length jc], rfl, by omega, by go_num, ?_, ?_⟩
                · rw [HdcM.out]; exact HU8.out
                · rw [HdcM.out]; exact HC8.out
      · have hkn : k = cn := by omega
        have hall : decAll s = (⟨en, (decCs s4 b4 k).1⟩, (decCs s4 b4 k).2) := by
          unfold decAll
          simp only [← Hr2.out, ← Hr4.out, hmin.out, hkn]
        have hlk := decCs_len s4 b4 k
        have hend := unEnd_any wr b _ _ hUr
        generalize decCs s4 b4 k = dr at hall hlk hend hUr hCr
        obtain ⟨lsd, sd, bd⟩ := dr
        simp only at hall hlk hend hUr hCr
        have hok : decOk s ↔ (bd = false ∧ sd.size = 0 ∧ (Proj.mk en lsd).good) := by unfold decOk; rw [hall]
        have Hok := Lib.hid hok
        obtain ⟨pa, pcc, hpv, hpl⟩ := own_lists hCr.row rfl hCr.heads.2
        simp only [Value.slice.injEq] at hpv
        obtain ⟨rfl, -, rfl⟩ := hpv
        have c0 := hCr.c0
        have c1 := hCr.c1
        have hBf := hCr.below
        have hpbl : pb < wr.heap.size := cell_lt c0
        have hgd := good_any _ wr (en : Int) va vc lsd hpl
        have Hpl := Lib.hid hpl
        have Hall := Lib.hid hall
        have HBf := Lib.hid hBf
        obtain ⟨rb, hrb⟩ : ∃ rb, rb = w.heap.size := ⟨_, rfl⟩
        have hrb0 : rb < W0.heap.size := by omega
        have hrb1 : w.heap.size ≤ rb := by omega
        have r0 := below_at hBf HR0.out (by omega)
        have r1 := below_at hBf HR1.out (by omega)
        have f0 := (hBf.frozen (p := ⟨w.heap.size, 0, none⟩) (by show w.heap.size < W0.heap.size; omega)).trans HF0.out
        have f1 := (hBf.frozen (p := ⟨w.heap.size, 1, none⟩) (by show w.heap.size < W0.heap.size; omega)).trans HF1.out
        rw [← hrb] at r0 r1 f0 f1 ⊢
        have hrbr : rb < wr.heap.size := cell_lt r0
        have hBw : Below w.heap.size w wr := hB0.trans (hBf.mono (by omega))
        have HBw := Lib.hid hBw
        have Hkn := Lib.hid hkn
        have Hlk := Lib.hid hlk
        have hge : cn ≤ k := by omega
        clear hall hUr hCr hpl hBf hok hrb hBw hlt hk hlk hkn
        by_cases hbad : bd = true ∨ 0 < sd.size
        · rw [if_pos hbad] at hend
          have Hbad := Lib.hid hbad
          clear hbad
          go_wp2_with fail
          refine hend.mono ?_
          clear hend
          rintro e w9 ⟨rfl, rfl⟩
          go_wp2_with fail
          refine bodyPost_ret (v := .tuple #[.agg #[.int .i64 0, .slice none 0 0], .int .i64 11]) (by simp only [results, Try.results17]; go_simp) rfl ?_
          refine ⟨none, 0, Or.inr ⟨rfl, fun h => ?_⟩, by (repeat (first | with_reducible exact HBw.out | with_reducible refine Below.drew ?_ | with_reducible refine Esch.below_drewN ?_ _ | with_reducible refine Below.setCell ?_ (by first | omega | (simp; done) | (simp; omega)) _ | with_reducible refine Below.alloc ?_ (by first | omega | (simp; done) | (simp; omega)) _))⟩
          obtain ⟨h1, h2, -⟩ := Hok.out.1 h
          rcases Hbad.out with e | e
          · rw [h1] at e; cases e
          · omega
        · rw [if_neg hbad] at hend
          have Hbad := Lib.hid hbad
          clear hbad
          go_wp2_with fail
          refine hend.mono ?_
          clear hend
          rintro e w9 ⟨rfl, rfl⟩
          go_wp2_with fail
          refine hgd.mono ?_
          clear hgd
          rintro e w10 ⟨rfl, hB10⟩
          have r0 := below_at hB10 r0 hrbr
          have r1 := below_at hB10 r1 hrbr
          have f0 := (hB10.frozen (p := ⟨rb, 0, none⟩) hrbr).trans f0
          have f1 := (hB10.frozen (p := ⟨rb, 1, none⟩) hrbr).trans f1
          have d0 := below_at hB10 c0 hpbl
          have d1 := below_at hB10 c1 hpbl
          have HBw10 := Lib.hid (HBw.out.trans (hB10.mono HBw.out.size))
          have Hpl10 := Lib.hid (Hpl.out.mod (F := none') (Mod.of_below hB10) (fun _ _ _ => id))
          clear hB10 c0 c1 HBw Hpl
          by_cases hgood : (Proj.mk en lsd).good
          · rw [show goodB ⟨en, lsd⟩ = true from decide_eq_true hgood]
            have Hgood := Lib.hid hgood
            clear hgood
            go_wp2_with fail
            refine bodyPost_ret (v := .tuple #[.agg #[.int .i64 en, .slice va lsd.length vc], .int .i64 0]) (by simp only [results, Try.results17]; go_simp) rfl ?_
            refine ⟨va, vc, Or.inl ⟨?_, ?_, ?_⟩, by (repeat (first | with_reducible exact HBw10.out | with_reducible refine Below.drew ?_ | with_reducible refine Esch.below_drewN ?_ _ | with_reducible refine Below.setCell ?_ (by first | omega | (simp; done) | (simp; omega)) _ | with_reducible refine Below.alloc ?_ (by first | omega | (simp; done) | (simp; omega)) _))⟩
            · rw [Hall.out]
            · rw [Hok.out]
              refine ⟨?_, ?_, Hgood.out⟩
              · cases bd
                · rfl
                · exact absurd (Or.inl rfl) Hbad.out
              · exact Nat.eq_zero_of_not_pos (fun h => Hbad.out (Or.inr h))
            · rw [Hall.out]
              refine (Hpl10.out.mod (F := (· = rb)) (by (repeat' (first | (with_reducible exact (Mod.refl _ _)) | (with_reducible apply Mod.drew) | (with_reducible apply Mod.drewN) | (with_reducible apply Mod.alloc) | (with_reducible apply Mod.setCellAt) | (intro _; first | rfl | exact Or.inl rfl | exact Or.inr rfl) | (intro h; exfalso; omega)))) (fun j hj _ (e : j = rb) => ?_)).sub (fun j _ hj => ?_)
              · have hj : pb + 1 ≤ j := hj.elim id (fun h => h.1)
                omega
              · have hj : pb + 1 ≤ j := hj.elim id (fun h => h.1)
                show w.heap.size ≤ j
                omega
          · rw [show goodB ⟨en, lsd⟩ = false from decide_eq_false hgood]
            have Hgood := Lib.hid hgood
            clear hgood
            go_wp2_with fail
            refine bodyPost_ret (v := .tuple #[.agg #[.int .i64 0, .slice none 0 0], .int .i64 11]) (by simp only [results, Try.results17]; go_simp) rfl ?_
            exact ⟨none, 0, Or.inr ⟨rfl, fun h => Hgood.out (Hok.out.1 h).2.2⟩, by (repeat (first | with_reducible exact HBw10.out | with_reducible refine Below.drew ?_ | with_reducible refine Esch.below_drewN ?_ _ | with_reducible refine Below.setCell ?_ (by first | omega | (simp; done) | (simp; omega)) _ | with_reducible refine Below.alloc ?_ (by first | omega | (simp; done) | (simp; omega)) _))⟩
  · have hmin : Hid (min cn 5 = 5) := Lib.hid (Nat.min_eq_right (by omega))
    go_wp2_with fail
    go_loopg [15] 5 (fun g s15 wr => DecRel W0 b pb en s4 b4 5 g s15 wr)
    case atStart => exact ⟨0, none, 0, [], rfl, Nat.zero_le _, rfl, HU4.out, HC4.out⟩
    case round =>
      obtain ⟨k, va, vc, xs, rfl, hk, rfl, hUr, hCr⟩ := hrel
      by_cases hlt : k < 5
      · have hnr : Calls Try.prog 52 #[.pointer (some ⟨b, 0, none⟩), .int .i64 1] wr (NumPost wr b (unNum (decCs s4 b4 k).2.1 (decCs s4 b4 k).2.2 1)) := unNum_any wr b _ _ 1 rfl hUr
        clear hUr
        have HCr := Lib.hid hCr
        clear hCr
        go_wp2_with fail
        refine hnr.mono ?_
        clear hnr
        rintro e w5 ⟨rfl, hU5, hM5⟩
        have hle5 := unNum_le (decCs s4 b4 k).2.1 (decCs s4 b4 k).2.2
        have hC5 := HCr.out.mod hM5 hbpb (by omega)
        have hdc : ∀ m, m = min (unNum (decCs s4 b4 k).2.1 (decCs s4 b4 k).2.2 1).1 5 → decCs s4 b4 (k + 1) = ((decCs s4 b4 k).1 ++ [(decU (unNum (decCs s4 b4 k).2.1 (decCs s4 b4 k).2.2 1).2.1 (unNum (decCs s4 b4 k).2.1 (decCs s4 b4 k).2.2 1).2.2 m).1], (decU (unNum (decCs s4 b4 k).2.1 (decCs s4 b4 k).2.2 1).2.1 (unNum (decCs s4 b4 k).2.1 (decCs s4 b4 k).2.2 1).2.2 m).2) := fun m hm => by rw [hm]; rfl
        have hlk := decCs_len s4 b4 k
        generalize (decCs s4 b4 k).1 = lsk at hC5 hdc hlk
        obtain ⟨⟨un, s5, b5⟩, hr5⟩ : ∃ r, r = unNum (decCs s4 b4 k).2.1 (decCs s4 b4 k).2.2 1 := ⟨_, rfl⟩
        rw [← hr5] at hU5 hle5 hdc
        rw [← hr5]
        simp only at hU5 hle5 hdc
        have Hdc := Lib.hid hdc
        have HC5 := Lib.hid hC5
        have HU5 := Lib.hid hU5
        clear hr5 hdc hC5 hU5 hM5 HCr
        by_cases h6 : un ≤ 5
        · have hmin5 : Hid (un = min un 5) := Lib.hid (Nat.min_eq_left h6).symm
          go_wp2_with fail
          go_loopg [6, 20] un (fun g s6 s20 wr => DecIn w5 b s5 b5 un g s6 s20 wr)
          case atStart => exact ⟨0, rfl, Nat.zero_le _, rfl, HU5.out, OwnI.nil _ _, Mod.refl _ _⟩
          case round =>
            obtain ⟨k2, rfl, hk2, rfl, hUi, hOi, hMi⟩ := hrel
            have hdl := decU_len s5 b5 k2
            have hb5 : b < w5.heap.size := cell_lt HU5.out.c0
            by_cases hlt2 : k2 < un
            · have hni : Calls Try.prog 52 #[.pointer (some ⟨b, 0, none⟩), .int .i64 1] wr (NumPost wr b (unNum (decU s5 b5 k2).2.1 (decU s5 b5 k2).2.2 1)) := unNum_any wr b _ _ 1 rfl hUi
              have hdu : decU s5 b5 (k2 + 1) = ((decU s5 b5 k2).1 ++ [((unNum (decU s5 b5 k2).2.1 (decU s5 b5 k2).2.2 1).1 : Int)], (unNum (decU s5 b5 k2).2.1 (decU s5 b5 k2).2.2 1).2) := rfl
              obtain ⟨⟨xn, s6, b6⟩, hr6⟩ : ∃ r, r = unNum (decU s5 b5 k2).2.1 (decU s5 b5 k2).2.2 1 := ⟨_, rfl⟩
              rw [← hr6] at hni hdu
              simp only at hdu
              generalize (decU s5 b5 k2).1 = L at hOi hdl hdu
              have Hdu := Lib.hid hdu
              obtain ⟨va6, vc6, rfl, -⟩ := hOi.ints
              have HOi := Lib.hid hOi
              have HMi := Lib.hid hMi
              have hzi := hMi.size
              have Hdl := Lib.hid hdl
              have hL6 : L.length ≤ 6 := by omega
              clear hUi hOi hMi hdu hr6 hdl
              go_wp2_with fail
              refine hni.mono ?_
              clear hni
              rintro e w7 ⟨rfl, hU7, hM7⟩
              simp only at hU7
              have hz7 := hM7.size
              have hO7 : OwnI w7 w5.heap.size (.slice va6 L.length vc6) L := grown_mod hM7 (fun j hj e => by have := (HOi.out.lt hj).1; omega) (fun j hj => (HOi.out.lt hj).2) HOi.out
              have hsrc := IntsAt.new w7 xn 3
              have HU7 := Lib.hid hU7
              have HO7 := Lib.hid hO7
              have HM7 := Lib.hid hM7
              clear hU7 hO7 hM7
              go_wp2_with (at_builtin; refine wpList_appendO rfl (.tmp 22) (.tmp 25) rfl (· = w7.heap.size) w5.heap.size (.slice va6 L.length vc6) L [(xn : Int)] _ 1 1 rfl rfl rfl (HO7.out.alloc _) hsrc (by simp only [List.length_cons, List.length_nil]; omega) (by rw [World.size_alloc]; omega) ?_)
              intro v8 w8 hO8 hg8 hb8
              have hown := fun j (hj : (Value.slice va6 L.length vc6).ownBlock = some j) => (HO7.out.lt hj).1
              have HO8 := Lib.hid hO8
              have HU8 : Hid (UnpAt w8 b s6 b6) := Lib.hid ((HU7.out.mod (F := none') ((Mod.refl none' _).alloc _) id).mod (mod_grown hg8) (fun e => by have := hown b e; omega))
              have HM8 : Hid (Mod (· = b) w5 w8) := Lib.hid (((HMi.out.trans HM7.out).alloc _).trans' (mod_grown hg8) (fun j hj e => by have := hown j e; omega))
              clear hO8 hg8 hb8 hown
              go_wp2_with fail
              go_roundg (un - (k2 + 1))
              case measure => omega
              case rel =>
                refine ⟨k2 + 1, rfl, by omega, by go_num, ?_, ?_, HM8.out⟩
                · rw [Hdu.out]; exact HU8.out
                · rw [Hdu.out]; exact HO8.out
            · have hkn2 : k2 = un := by omega
              have hdcM := Hdc.out un hmin5.out
              rw [← hkn2] at hdcM
              generalize hLe : (decU s5 b5 k2).1 = L at hOi hdl hdcM
              obtain ⟨ja, jc, rfl, hj2, hcp1, hcp2, -⟩ := hOi.ints
              have hC6 := HC5.out.mod hMi hbpb (by omega)
              obtain ⟨w5', hMb, hBb, hzb⟩ := only_b hMi
              rw [← hzb] at hBb hj2
              have HCb := Lib.hid (HC5.out.mod hMb hbpb (by omega))
              have HBb := Lib.hid hBb
              have HJ2 := Lib.hid hj2
              have HUi := Lib.hid hUi
              have HdcM := Lib.hid hdcM
              obtain ⟨i0, hi, hz0, hz1, hz2⟩ := info_parts Try.infoInts
              have q1 := hC6.c1
              have hrow := hC6.row
              have hon := hC6.own_ne (Nat.lt_succ_self pb)
              have honb := hC6.own_ne (show b < pb + 1 by omega)
              have hf1 := hC6.f1
              have hpl : pb < wr.heap.size := cell_lt hC6.c0
              rw [hlk] at q1 hrow hon honb
              have Hrow := Lib.hid hrow
              have hL6 : L.length ≤ 6 := by omega
              have Hon := Lib.hid hon
              have Honb := Lib.hid honb
              have Hlk := Lib.hid hlk
              have hbr : b < wr.heap.size := cell_lt hUi.c0
              clear hLe hUi hOi hMi hC6 hMb hBb hj2 hdcM hzb hrow hdl hlk hon honb
              go_wp2_with (at_builtin; refine wpList_append_lies _ (by rfl) _ _ _ (by rfl) (pb + 1) 40 i0 _ 1 24 Try.underlying22 hi hz0 hz1 hz2 rfl (by omega) (.slice va k vc) k xs (by rfl) (Hrow.out.alloc _) ⟨wr.heap.size, 0, none⟩ 1 1 [.slice ja L.length jc] (by rfl) (by rfl) (World.news_of_block (cs := #[.slice ja L.length jc]) (t := 40) (fr := (0, 0)) (heap_alloc_new _ _)) (by simp [Value.oneCell']) (by omega) (by unfold Go.maxLen; omega) (by omega) (by simp; omega) (wr.heap.size + 1) (by simp) ?_; intro gg cap w8 hown1 hgrow hat hlt4; have hc8 := (grown_at hgrow (Hon.out) ((cell_alloc_lt wr _ pb 1 hpl).trans q1)); have hf8 := (grown_fr hgrow (Hon.out) (by rw [World.size_alloc]; omega)).trans ((frozen_alloc_lt wr _ pb 1 hpl).trans hf1))
              have hU8 : UnpAt (w8.setCell ⟨pb, 1, none⟩ (.slice (some ⟨gg, 0, none⟩) (k + 1) cap)) b (decU s5 b5 k2).2.1 (decU s5 b5 k2).2.2 :=
                ((HUi.out.mod (F := none') ((Mod.refl none' _).alloc _) id).mod (grown_mod2 hgrow) Honb.out).mod (F := (· = pb)) ((Mod.refl (· = pb) _).setCellAt (fun _ => rfl) _) (by omega)
              have HC8 := Lib.hid (HCb.out.step HBb.out HJ2.out hown1 hgrow hat Hlk.out (by omega) hf8 hc8 ⟨hcp1, hcp2⟩)
              have HU8 := Lib.hid hU8
              clear hU8
              go_roundg (5 - (k + 1))
              case measure => omega
              case rel =>
                refine ⟨k + 1, some ⟨gg, 0, none⟩, cap, xs ++ [.slice ja L.length jc], rfl, by omega, by go_num, ?_, ?_⟩
                · rw [HdcM.out]; exact HU8.out
                · rw [HdcM.out]; exact HC8.out
        · have hmin5 : Hid (5 = min un 5) := Lib.hid (Nat.min_eq_right (by omega)).symm
          go_wp2_with fail
          go_loopg [6, 20] 5 (fun g s6 s20 wr => DecIn w5 b s5 b5 5 g s6 s20 wr)
          case atStart => exact ⟨0, rfl, Nat.zero_le _, rfl, HU5.out, OwnI.nil _ _, Mod.refl _ _⟩
          case round =>
            obtain ⟨k2, rfl, hk2, rfl, hUi, hOi, hMi⟩ := hrel
            have hdl := decU_len s5 b5 k2
            have hb5 : b < w5.heap.size := cell_lt HU5.out.c0
            by_cases hlt2 : k2 < 5
            · have hni : Calls Try.prog 52 #[.pointer (some ⟨b, 0, none⟩), .int .i64 1] wr (NumPost wr b (unNum (decU s5 b5 k2).2.1 (decU s5 b5 k2).2.2 1)) := unNum_any wr b _ _ 1 rfl hUi
              have hdu : decU s5 b5 (k2 + 1) = ((decU s5 b5 k2).1 ++ [((unNum (decU s5 b5 k2).2.1 (decU s5 b5 k2).2.2 1).1 : Int)], (unNum (decU s5 b5 k2).2.1 (decU s5 b5 k2).2.2 1).2) := rfl
              obtain ⟨⟨xn, s6, b6⟩, hr6⟩ : ∃ r, r = unNum (decU s5 b5 k2).2.1 (decU s5 b5 k2).2.2 1 := ⟨_, rfl⟩
              rw [← hr6] at hni hdu
              simp only at hdu
              generalize (decU s5 b5 k2).1 = L at hOi hdl hdu
              have Hdu := Lib.hid hdu
              obtain ⟨va6, vc6, rfl, -⟩ := hOi.ints
              have HOi := Lib.hid hOi
              have HMi := Lib.hid hMi
              have hzi := hMi.size
              have Hdl := Lib.hid hdl
              have hL6 : L.length ≤ 6 := by omega
              clear hUi hOi hMi hdu hr6 hdl
              go_wp2_with fail
              refine hni.mono ?_
              clear hni
              rintro e w7 ⟨rfl, hU7, hM7⟩
              simp only at hU7
              have hz7 := hM7.size
              have hO7 : OwnI w7 w5.heap.size (.slice va6 L.length vc6) L := grown_mod hM7 (fun j hj e => by have := (HOi.out.lt hj).1; omega) (fun j hj => (HOi.out.lt hj).2) HOi.out
              have hsrc := IntsAt.new w7 xn 3
              have HU7 := Lib.hid hU7
              have HO7 := Lib.hid hO7
              have HM7 := Lib.hid hM7
              clear hU7 hO7 hM7
              go_wp2_with (at_builtin; refine wpList_appendO rfl (.tmp 22) (.tmp 25) rfl (· = w7.heap.size) w5.heap.size (.slice va6 L.length vc6) L [(xn : Int)] _ 1 1 rfl rfl rfl (HO7.out.alloc _) hsrc (by simp only [List.length_cons, List.length_nil]; omega) (by rw [World.size_alloc]; omega) ?_)
              intro v8 w8 hO8 hg8 hb8
              have hown := fun j (hj : (Value.slice va6 L.length vc6).ownBlock = some j) => (HO7.out.lt hj).1
              have HO8 := Lib.hid hO8
              have HU8 : Hid (UnpAt w8 b s6 b6) := Lib.hid ((HU7.out.mod (F := none') ((Mod.refl none' _).alloc _) id).mod (mod_grown hg8) (fun e => by have := hown b e; omega))
              have HM8 : Hid (Mod (· = b) w5 w8) := Lib.hid (((HMi.out.trans HM7.out).alloc _).trans' (mod_grown hg8) (fun j hj e => by have := hown j e; omega))
              clear hO8 hg8 hb8 hown
              go_wp2_with fail
              go_roundg (5 - (k2 + 1))
              case measure => omega
              case rel =>
                refine ⟨k2 + 1, rfl, by omega, by go_num, ?_, ?_, HM8.out⟩
                · rw [Hdu.out]; exact HU8.out
                · rw [Hdu.out]; exact HO8.out
            · have hkn2 : k2 = 5 := by omega
              have hdcM := Hdc.out 5 hmin5.out
              rw [← hkn2] at hdcM
              generalize hLe : (decU s5 b5 k2).1 = L at hOi hdl hdcM
              obtain ⟨ja, jc, rfl, hj2, hcp1, hcp2, -⟩ := hOi.ints
              have hC6 := HC5.out.mod hMi hbpb (by omega)
              obtain ⟨w5', hMb, hBb, hzb⟩ := only_b hMi
              rw [← hzb] at hBb hj2
              have HCb := Lib.hid (HC5.out.mod hMb hbpb (by omega))
              have HBb := Lib.hid hBb
              have HJ2 := Lib.hid hj2
              have HUi := Lib.hid hUi
              have HdcM := Lib.hid hdcM
              obtain ⟨i0, hi, hz0, hz1, hz2⟩ := info_parts Try.infoInts
              have q1 := hC6.c1
              have hrow := hC6.row
              have hon := hC6.own_ne (Nat.lt_succ_self pb)
              have honb := hC6.own_ne (show b < pb + 1 by omega)
              have hf1 := hC6.f1
              have hpl : pb < wr.heap.size := cell_lt hC6.c0
              rw [hlk] at q1 hrow hon honb
              have Hrow := Lib.hid hrow
              have hL6 : L.length ≤ 6 := by omega
              have Hon := Lib.hid hon
              have Honb := Lib.hid honb
              have Hlk := Lib.hid hlk
              have hbr : b < wr.heap.size := cell_lt hUi.c0
              clear hLe hUi hOi hMi hC6 hMb hBb hj2 hdcM hzb hrow hdl hlk hon honb
              go_wp2_with (at_builtin; refine wpList_append_lies _ (by rfl) _ _ _ (by rfl) (pb + 1) 40 i0 _ 1 24 Try.underlying22 hi hz0 hz1 hz2 rfl (by omega) (.slice va k vc) k xs (by rfl) (Hrow.out.alloc _) ⟨wr.heap.size, 0, none⟩ 1 1 [.slice ja L.length jc] (by rfl) (by rfl) (World.news_of_block (cs := #[.slice ja L.length jc]) (t := 40) (fr := (0, 0)) (heap_alloc_new _ _)) (by simp [Value.oneCell']) (by omega) (by unfold Go.maxLen; omega) (by omega) (by simp; omega) (wr.heap.size + 1) (by simp) ?_; intro gg cap w8 hown1 hgrow hat hlt4; have hc8 := (grown_at hgrow (Hon.out) ((cell_alloc_lt wr _ pb 1 hpl).trans q1)); have hf8 := (grown_fr hgrow (Hon.out) (by rw [World.size_alloc]; omega)).trans ((frozen_alloc_lt wr _ pb 1 hpl).trans hf1))
              have hU8 : UnpAt (w8.setCell ⟨pb, 1, none⟩ (.slice (some ⟨gg, 0, none⟩) (k + 1) cap)) b (decU s5 b5 k2).2.1 (decU s5 b5 k2).2.2 :=
                ((HUi.out.mod (F := none') ((Mod.refl none' _).alloc _) id).mod (grown_mod2 hgrow) Honb.out).mod (F := (· = pb)) ((Mod.refl (· = pb) _).setCellAt (fun _ => rfl) _) (by omega)
              have HC8 := Lib.hid (HCb.out.step HBb.out HJ2.out hown1 hgrow hat Hlk.out (by omega) hf8 hc8 ⟨hcp1, hcp2⟩)
              have HU8 := Lib.hid hU8
              clear hU8
              go_roundg (5 - (k + 1))
              case measure => omega
              case rel =>
                refine ⟨k + 1, some ⟨gg, 0, none⟩, cap, xs ++ [.slice ja L.length jc], rfl, by omega, by go_num, ?_, ?_⟩
                · rw [HdcM.out]; exact HU8.out
                · rw [HdcM.out]; exact HC8.out
      · have hkn : k = 5 := by omega
        have hall : decAll s = (⟨en, (decCs s4 b4 k).1⟩, (decCs s4 b4 k).2) := by
          unfold decAll
          simp only [← Hr2.out, ← Hr4.out, hmin.out, hkn]
        have hlk := decCs_len s4 b4 k
        have hend := unEnd_any wr b _ _ hUr
        generalize decCs s4 b4 k = dr at hall hlk hend hUr hCr
        obtain ⟨lsd, sd, bd⟩ := dr
        simp only at hall hlk hend hUr hCr
        have hok : decOk s ↔ (bd = false ∧ sd.size = 0 ∧ (Proj.mk en lsd).good) := by unfold decOk; rw [hall]
        have Hok := Lib.hid hok
        obtain ⟨pa, pcc, hpv, hpl⟩ := own_lists hCr.row rfl hCr.heads.2
        simp only [Value.slice.injEq] at hpv
        obtain ⟨rfl, -, rfl⟩ := hpv
        have c0 := hCr.c0
        have c1 := hCr.c1
        have hBf := hCr.below
        have hpbl : pb < wr.heap.size := cell_lt c0
        have hgd := good_any _ wr (en : Int) va vc lsd hpl
        have Hpl := Lib.hid hpl
        have Hall := Lib.hid hall
        have HBf := Lib.hid hBf
        obtain ⟨rb, hrb⟩ : ∃ rb, rb = w.heap.size := ⟨_, rfl⟩
        have hrb0 : rb < W0.heap.size := by omega
        have hrb1 : w.heap.size ≤ rb := by omega
        have r0 := below_at hBf HR0.out (by omega)
        have r1 := below_at hBf HR1.out (by omega)
        have f0 := (hBf.frozen (p := ⟨w.heap.size, 0, none⟩) (by show w.heap.size < W0.heap.size; omega)).trans HF0.out
        have f1 := (hBf.frozen (p := ⟨w.heap.size, 1, none⟩) (by show w.heap.size < W0.heap.size; omega)).trans HF1.out
        rw [← hrb] at r0 r1 f0 f1 ⊢
        have hrbr : rb < wr.heap.size := cell_lt r0
        have hBw : Below w.heap.size w wr := hB0.trans (hBf.mono (by omega))
        have HBw := Lib.hid hBw
        have Hkn := Lib.hid hkn
        have Hlk := Lib.hid hlk
        have hge : 5 ≤ k := by omega
        clear hall hUr hCr hpl hBf hok hrb hBw hlt hk hlk hkn
        by_cases hbad : bd = true ∨ 0 < sd.size
        · rw [if_pos hbad] at hend
          have Hbad := Lib.hid hbad
          clear hbad
          go_wp2_with fail
          refine hend.mono ?_
          clear hend
          rintro e w9 ⟨rfl, rfl⟩
          go_wp2_with fail
          refine bodyPost_ret (v := .tuple #[.agg #[.int .i64 0, .slice none 0 0], .int .i64 11]) (by simp only [results, Try.results17]; go_simp) rfl ?_
          refine ⟨none, 0, Or.inr ⟨rfl, fun h => ?_⟩, by (repeat (first | with_reducible exact HBw.out | with_reducible refine Below.drew ?_ | with_reducible refine Esch.below_drewN ?_ _ | with_reducible refine Below.setCell ?_ (by first | omega | (simp; done) | (simp; omega)) _ | with_reducible refine Below.alloc ?_ (by first | omega | (simp; done) | (simp; omega)) _))⟩
          obtain ⟨h1, h2, -⟩ := Hok.out.1 h
          rcases Hbad.out with e | e
          · rw [h1] at e; cases e
          · omega
        · rw [if_neg hbad] at hend
          have Hbad := Lib.hid hbad
          clear hbad
          go_wp2_with fail
          refine hend.mono ?_
          clear hend
          rintro e w9 ⟨rfl, rfl⟩
          go_wp2_with fail
          refine hgd.mono ?_
          clear hgd
          rintro e w10 ⟨rfl, hB10⟩
          have r0 := below_at hB10 r0 hrbr
          have r1 := below_at hB10 r1 hrbr
          have f0 := (hB10.frozen (p := ⟨rb, 0, none⟩) hrbr).trans f0
          have f1 := (hB10.frozen (p := ⟨rb, 1, none⟩) hrbr).trans f1
          have d0 := below_at hB10 c0 hpbl
          have d1 := below_at hB10 c1 hpbl
          have HBw10 := Lib.hid (HBw.out.trans (hB10.mono HBw.out.size))
          have Hpl10 := Lib.hid (Hpl.out.mod (F := none') (Mod.of_below hB10) (fun _ _ _ => id))
          clear hB10 c0 c1 HBw Hpl
          by_cases hgood : (Proj.mk en lsd).good
          · rw [show goodB ⟨en, lsd⟩ = true from decide_eq_true hgood]
            have Hgood := Lib.hid hgood
            clear hgood
            go_wp2_with fail
            refine bodyPost_ret (v := .tuple #[.agg #[.int .i64 en, .slice va lsd.length vc], .int .i64 0]) (by simp only [results, Try.results17]; go_simp) rfl ?_
            refine ⟨va, vc, Or.inl ⟨?_, ?_, ?_⟩, by (repeat (first | with_reducible exact HBw10.out | with_reducible refine Below.drew ?_ | with_reducible refine Esch.below_drewN ?_ _ | with_reducible refine Below.setCell ?_ (by first | omega | (simp; done) | (simp; omega)) _ | with_reducible refine Below.alloc ?_ (by first | omega | (simp; done) | (simp; omega)) _))⟩
            · rw [Hall.out]
            · rw [Hok.out]
              refine ⟨?_, ?_, Hgood.out⟩
              · cases bd
                · rfl
                · exact absurd (Or.inl rfl) Hbad.out
              · exact Nat.eq_zero_of_not_pos (fun h => Hbad.out (Or.inr h))
            · rw [Hall.out]
              refine (Hpl10.out.mod (F := (· = rb)) (by (repeat' (first | (with_reducible exact (Mod.refl _ _)) | (with_reducible apply Mod.drew) | (with_reducible apply Mod.drewN) | (with_reducible apply Mod.alloc) | (with_reducible apply Mod.setCellAt) | (intro _; first | rfl | exact Or.inl rfl | exact Or.inr rfl) | (intro h; exfalso; omega)))) (fun j hj _ (e : j = rb) => ?_)).sub (fun j _ hj => ?_)
              · have hj : pb + 1 ≤ j := hj.elim id (fun h => h.1)
                omega
              · have hj : pb + 1 ≤ j := hj.elim id (fun h => h.1)
                show w.heap.size ≤ j
                omega
          · rw [show goodB ⟨en, lsd⟩ = false from decide_eq_false hgood]
            have Hgood := Lib.hid hgood
            clear hgood
            go_wp2_with fail
            refine bodyPost_ret (v := .tuple #[.agg #[.int .i64 0, .slice none 0 0], .int .i64 11]) (by simp only [results, Try.results17]; go_simp) rfl ?_
            exact ⟨none, 0, Or.inr ⟨rfl, fun h => Hgood.out (Hok.out.1 h).2.2⟩, by (repeat (first | with_reducible exact HBw10.out | with_reducible refine Below.drew ?_ | with_reducible refine Esch.below_drewN ?_ _ | with_reducible refine Below.setCell ?_ (by first | omega | (simp; done) | (simp; omega)) _ | with_reducible refine Below.alloc ?_ (by first | omega | (simp; done) | (simp; omega)) _))⟩
end Go.Proofs.Ytpkdpmkiplopmaa
