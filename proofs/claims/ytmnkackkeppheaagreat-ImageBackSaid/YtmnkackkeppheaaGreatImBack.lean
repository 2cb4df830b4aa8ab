/- the walk of the law ImageBack -/
import Derived.Test.YtmnkackkeppheaaGreatPkBk
import Derived.Test.YtmnkackkeppheaaGreatLoad2
import Derived.Test.YtmnkackkeppheaaGreatPkWk
import Derived.Test.YtmnkackkeppheaaGreatSsLarge
import Derived.Test.YtmnkackkeppheaaGreatPkCop
namespace Esch
open Go Go.RowKit
theorem rangeAt_far {w w' : World} {b : Nat} {l : List Value} (h : w.rangeAt b 0 l) (hB : Below w.heap.size w w') : w'.rangeAt b 0 l := fun j v hv => below_at hB (h j v hv) (cell_lt (h j v hv))
theorem rangeAt_box (w : World) (T : TypeId) (l : List Value) : (w.alloc (.cells l.toArray T)).rangeAt w.heap.size 0 l := fun j v hv => by
  have hb : (w.alloc (.cells l.toArray T)).heap[w.heap.size]? = some (.cells l.toArray T) := heap_alloc_new _ _
  rw [Nat.zero_add]
  unfold World.cell?
  simp only [hb]
  simpa using hv
/-- an argument's dump, as it lies: nothing is known of its lengths -/
structure DmA (w : World) (x : DmC) : Prop where
  ino : RwAt w (fun _ => True) 6 x.ik.length x.ia (x.ik.flatMap InC.cells)
  pts : ∀ y ∈ x.ik, PtsAt w (fun _ => True) y.pa y.ps ∧ (y.pa = none → y.pc = 0) ∧ y.ps.length ≤ y.pc ∧ y.pc ≤ 9223372036854775807
  nam : RwAt w (fun _ => True) 3 x.nl.length x.na (x.nl.flatMap enC)
  hdl : RwAt w (fun _ => True) 3 x.hl.length x.ha (x.hl.flatMap hdC)
  nn : x.na = none → x.nc = 0
  hn : x.ha = none → x.hc = 0
theorem DmA.ok {w w' : World} {x : DmC} (h : DmA w x) (hB : Below w.heap.size w w') (hl : (x.ik.length ≤ 100 ∧ ∀ y ∈ x.ik, y.ps.length ≤ 100) ∧ x.nl.length ≤ 300 ∧ x.hl.length ≤ 300) : DmOk w' (fun _ => True) x :=
  ⟨⟨h.ino.below' hB, fun y hy => ⟨(h.pts y hy).1.below' hB, (h.pts y hy).2.1, (h.pts y hy).2.2, Nat.le_trans (hl.1.2 y hy) (by decide)⟩⟩, h.nam.below' hB, h.hdl.below' hB, by omega, by omega, by omega⟩
end Esch
namespace Go.Proofs.YtmnkackkeppheaaGreat
open Go.RowKit Esch Go.Shelf

set_option linter.unusedSimpArgs false
set_option linter.unusedVariables false
theorem rest_arg {x : DmC} (hi : ∀ k, I64 (x.s k) ∧ I64 (x.r k)) (hh : x.hl.length ≤ 300) : Rest (valOf x) := by
  refine ⟨by simp [valOf], fun k hk => ?_, Nat.le_trans hh (by decide)⟩
  obtain ⟨-, -, -, -, -, -, g⟩ := is_val x
  obtain ⟨-, g1, g2, g3⟩ := g k hk
  rw [← g1, ← g2, ← g3]
  exact ⟨(hi k).1, (hi (2 * k)).2, (hi (2 * k + 1)).2⟩
theorem dec_facts {ldf : DVal → Int} {s : ByteArray} {v : DVal} (h : decP ldf s = some v) : ∃ st, rDump (s, false) = some (v, st) ∧ st.2 = false ∧ st.1.size = 0 ∧ ldf v = 0 := by
  unfold decP at h
  cases hr : rDump (s, false) with
  | none => rw [hr] at h; cases h
  | some q =>
    rw [hr] at h
    obtain ⟨u, st⟩ := q
    simp only at h
    split at h
    · cases h
    · rename_i hc
      split at h
      · rename_i h0
        cases h
        refine ⟨st, rfl, ?_, by omega, h0⟩
        cases hb : st.2
        · rfl
        · exact absurd (Or.inl hb) hc
      · cases h
theorem ans_zero {v : DVal} (h : LdAns v 0) : VOk v := by
  rcases h with ⟨-, s, hs⟩ | ⟨h, -⟩
  · exact hs.ok
  · cases h
/-- what was read is packed as it stood -/
theorem back_enc {s : ByteArray} {v : DVal} {st : USt} {x : DmC} (h : rDump (s, false) = some (v, st)) (h2 : st.2 = false) (h3 : st.1.size = 0) (ho : VOk v) (hx : DmIs x v) : Rest v ∧ encP 0 (nrm x) = (s, 0) := by
  have he := enc_of_dump h h2 h3
  have hr := rest_of_enc hx.2.2.2.2.2.1 (by rw [he])
  have hsh := ho.short hx hr.2
  refine ⟨hr.1, ?_⟩
  unfold encP
  rw [enc_is (nrm_is hx), if_neg (by decide)]
  have hd : doneP (encV v) = (s, 0) := by
    rw [he] at hsh ⊢
    unfold doneP
    rw [if_neg (fun e => by cases e), if_neg (by omega)]
  rw [hd]
  rfl
/-- what was packed is read as it was -/
theorem enc_back {v : DVal} {x : DmC} {ld : Int} {tx : ByteArray} (ha : LdAns v ld) (hr : Rest v) (hx : DmIs x v) (h : encP ld (nrm x) = (tx, 0)) : ld = 0 ∧ tx.size ≤ 9223372036854775807 ∧ rDump (tx, false) = some (v, (⟨#[]⟩, false)) := by
  unfold encP at h
  rw [enc_is (nrm_is hx)] at h
  split at h
  · cases h
  · rename_i hld
    have hld : ld = 0 := by omega
    subst hld
    split at h
    · cases h
    · rename_i hd
      have hd : (doneP (encV v)).2 = 0 := by omega
      obtain ⟨l, bad⟩ : PkS := encV v
      have hb : (encV v).2 = false ∧ (encV v).1.length ≤ 65536 ∧ (doneP (encV v)).1 = ⟨(encV v).1.toArray⟩ := by
        unfold doneP at hd ⊢
        split at hd
        · cases hd
        · rename_i hb
          split at hd
          · cases hd
          · rename_i hl
            rw [if_neg hb, if_neg hl]
            exact ⟨by cases hbb : (encV v).2; rfl; exact absurd hbb hb, by omega, rfl⟩
      obtain ⟨hb1, hb2, hb3⟩ := hb
      rw [hb3] at h
      simp only [Prod.mk.injEq, and_true] at h
      subst h
      refine ⟨rfl, ?_, dump_of_enc v ((ans_zero ha).fit hr) hb1⟩
      have : (⟨(encV v).1.toArray⟩ : ByteArray).size = (encV v).1.length := bs_len _
      omega
def z37 : List Value := [.int .i64 0, .slice none 0 0, .int .i64 0, .slice none 0 0, .slice none 0 0, .int .i64 0, .int .i64 0, .int .i64 0, .int .i64 0, .int .i64 0, .int .i64 0, .int .i64 0, .int .i64 0, .int .i64 0, .int .i64 0, .int .i64 0, .int .i64 0, .int .i64 0, .int .i64 0, .int .i64 0, .int .i64 0, .int .i64 0, .int .i64 0, .int .i64 0, .int .i64 0, .int .i64 0, .int .i64 0, .int .i64 0, .int .i64 0, .int .i64 0, .int .i64 0, .int .i64 0, .int .i64 0, .int .i64 0, .int .i64 0, .int .i64 0, .int .i64 0]
theorem dm37b (x : DmC) : (Tryz.prog.info? 32).map (·.size) = some x.cells.length := by rw [show x.cells.length = 37 from rfl]; kernel_rfl
set_option maxRecDepth 100000 in
set_option maxHeartbeats 8000000 in
theorem imageBack_walk (w : World) (x : DmC) (hx : DmA w x) (hi : ∀ k, I64 (x.s k) ∧ I64 (x.r k)) (s : ByteArray) : Calls Tryz.prog 4 #[.agg x.cells.toArray, .string s] w fun e w' => e = .returned (.bool true) ∧ Below w.heap.size w w' := by
  obtain ⟨ldf, hldf⟩ := Classical.axiomOfChoice load_is
  have HLDF := Lib.hid hldf
  have HX := Lib.hid hx
  have HI := Lib.hid hi
  obtain ⟨W1, hW1⟩ : ∃ W1, W1 = w.alloc (.cells x.cells.toArray 32) := ⟨_, rfl⟩
  have hB1 : Below w.heap.size w W1 := by rw [hW1]; exact belC (Below.refl _ _)
  have hrg : W1.rangeAt w.heap.size 0 x.cells := by rw [hW1]; exact rangeAt_box _ _ _
  have hlg := large25_any W1 _ _ x (hx.ino.below' hB1) (hx.nam.below' hB1)
  have HRG := Lib.hid hrg
  have HBX := Lib.hid hB1
  have HW1 := Lib.hid hW1
  clear hx hi hldf hW1 hB1 hrg
  go_enter Tryz.func4, Tryz.ntmps4
  go_wp2_with (refine wpList_load_mid (by rfl) 32 _ (by rfl) w.heap.size 0 (by rfl) x.cells _ (rangeAt_box _ _ _) Tryz.underlying32 rfl (dm37b _) ?_; rw [← HW1.out])
  refine hlg.mono ?_
  clear hlg
  rintro e w2 ⟨r, rfl, hlr, hB2⟩
  have HRG := Lib.hid (rangeAt_far HRG.out hB2)
  have HBX := Lib.hid (HBX.out.trans (hB2.mono HBX.out.size))
  clear hB2 HW1
  cases r
  rotate_left 1
  · clear hlr
    go_wp2_with fail
    refine (wakes26_any _).mono ?_
    rintro e wv ⟨rfl, hBv⟩
    have HBv := Lib.hid (HBX.out.trans (hBv.mono HBX.out.size))
    clear hBv
    go_wp2_with fail
    go_ret
    exact ⟨rfl, HBv.out⟩
  have HLR := Lib.hid (hlr rfl)
  clear hlr
  by_cases hsz : 70000 < s.size
  · have hsz' : (70000 : Int) < (s.size : Int) := by omega
    clear hsz
    go_wp2_with fail
    refine (wakes26_any _).mono ?_
    rintro e wv ⟨rfl, hBv⟩
    have HBv := Lib.hid (HBX.out.trans (hBv.mono HBX.out.size))
    clear hBv
    go_wp2_with fail
    go_ret
    exact ⟨rfl, HBv.out⟩
  have hsz' : ¬ (70000 : Int) < (s.size : Int) := by omega
  have HSZ := Lib.hid (show s.size ≤ 9223372036854775807 by omega)
  clear hsz
  have hcp := cop25_any w2 _ x (HX.out.ok HBX.out HLR.out) HX.out.nn HX.out.hn
  go_wp2_with (refine wpList_load_mid (by rfl) 32 _ (by rfl) w.heap.size 0 (by rfl) x.cells _ HRG.out Tryz.underlying32 rfl (dm37b _) ?_)
  refine hcp.mono ?_
  clear hcp
  rintro e w3 ⟨y, rfl, hoy, hsm, hB3⟩
  have HRG := Lib.hid (rangeAt_far HRG.out hB3)
  have HBX := Lib.hid (HBX.out.trans (hB3.mono HBX.out.size))
  have hDy := is_same hsm (is_val x)
  have hrs := rest_arg HI.out HLR.out.2.2
  obtain ⟨ld, hLI, hLA⟩ := load_is (valOf x)
  have hen := imgEncode_any w3 _ (nrm y) (nrm_ok hoy) ld (fun h0 => (ans_zero (by rw [← h0]; exact hLA)).fitD hrs hDy) (fun W sb S U h1 h2 => hLI W sb S U (nrm y) h1 h2 (nrm_is hDy))
  rw [nrm_cells] at hen
  obtain ⟨⟨tx, ec⟩, hE⟩ : ∃ p, p = encP ld (nrm y) := ⟨_, rfl⟩
  rw [← hE] at hen
  have HEB : Hid (ec = 0 → tx.size ≤ 9223372036854775807 ∧ rDump (tx, false) = some (valOf x, (⟨#[]⟩, false)) ∧ LoadIs (valOf x) 0) := Lib.hid (fun h0 => by
    subst h0
    obtain ⟨h1, h2, h3⟩ := enc_back hLA hrs hDy hE.symm
    subst h1
    exact ⟨h2, h3, hLI⟩)
  clear hB3 hoy hsm hDy hrs hLI hLA hE
  go_wp2_with fail
  refine hen.mono ?_
  clear hen
  rintro e w4 ⟨rfl, hB4⟩
  have HRG := Lib.hid (rangeAt_far HRG.out hB4)
  have HBX := Lib.hid (HBX.out.trans (hB4.mono HBX.out.size))
  clear hB4
  by_cases h0 : ec = 0
  · obtain ⟨h1, h2, h3⟩ := HEB.out h0
    subst h0
    have hdc := decode_of w4 tx (valOf x) h1 h2 h3
    clear HEB h1 h2 h3
    go_wp2_with fail
    refine hdc.mono ?_
    clear hdc
    rintro e w5 ⟨hB5, x2, rfl, hok2, his2⟩
    obtain ⟨W6, hW6, hth, hrg, hB6, hz6⟩ := box_put w5 x2.cells rfl z37 rfl
    have hB56 := hB5.trans (hB6.mono hB5.size)
    have HBX := Lib.hid (HBX.out.trans (hB56.mono HBX.out.size))
    have hss := stSame_any W6 _ _ x2 x (dmOk_md hok2 (F := none') (Mod.of_below hB6) (fun _ _ _ => id)) (HX.out.ok HBX.out HLR.out)
    rw [same_of his2 (is_val x)] at hss
    have HSS := Lib.hid hss
    have HTH := Lib.hid hth
    have HW6 := Lib.hid hW6
    have HRG2 := Lib.hid hrg
    have HRG := Lib.hid (rangeAt_far HRG.out hB56)
    clear hB5 hB6 hB56 hz6 hrg hth hW6 hok2 his2 hss
    unfold z37 at HTH HW6
    go_wp2_with (first
      | (refine wpList_load_mid (by rfl) 32 _ (by rfl) w5.heap.size 0 (by rfl) x2.cells _ HRG2.out Tryz.underlying32 rfl (dm37b _) ?_)
      | (refine wpList_load_mid_w (by rfl) 32 _ (by rfl) w5.heap.size 0 (by rfl) x2.cells _ HRG2.out Tryz.underlying32 rfl (dm37b _) ?_)
      | (refine wpList_load_mid_w (by rfl) 32 _ (by rfl) w.heap.size 0 (by rfl) x.cells _ HRG.out Tryz.underlying32 rfl (dm37b _) ?_)
      | (refine wpList_store_mid (by rfl) 32 _ _ (by rfl) w5.heap.size 0 x2.cells.toArray (by rfl) (by rfl) HTH.out (by kernel_rfl) (DmC.one _) ?_; rw [← HW6.out]))
    refine HSS.out.mono ?_
    rintro e w7 ⟨rfl, hB7⟩
    have HBX := Lib.hid (HBX.out.trans (hB7.mono HBX.out.size))
    clear hB7 HSS HTH HW6 HRG2
    have hdc := imgDecode_any w7 s HSZ.out ldf (fun v st h => (HLDF.out v).1)
    unfold IDecPost at hdc
    obtain ⟨dr, hdr⟩ : ∃ dr, dr = decP ldf s := ⟨_, rfl⟩
    rw [← hdr] at hdc
    have HDR := Lib.hid hdr
    clear hdr
    go_wp2_with fail
    refine hdc.mono ?_
    clear hdc
    rintro e w6 ⟨hB6, hm⟩
    cases dr with
    | none =>
      have hm : e = .returned (.tuple #[.agg dumpZ.toArray, .int .i64 11]) := hm
      subst hm
      obtain ⟨W7, hW7, hth, hrg, hB7, hz7⟩ := box_put w6 dumpZ rfl z37 rfl
      have HTH := Lib.hid hth
      have HW7 := Lib.hid hW7
      have HBX := Lib.hid (HBX.out.trans ((hB6.trans (hB7.mono hB6.size)).mono HBX.out.size))
      clear hB6 hB7 hz7 hrg hth hW7
      unfold z37 at HTH HW7
      go_wp2_with (refine wpList_store_mid (by rfl) 32 _ _ (by rfl) w6.heap.size 0 dumpZ.toArray (by rfl) (by rfl) HTH.out (by kernel_rfl) (dmZ_one _ _ _ _ _ _ _ _ _ _ _) ?_; rw [← HW7.out])
      refine (wakes26_any _).mono ?_
      rintro e wv ⟨rfl, hBv⟩
      have HBv := Lib.hid (HBX.out.trans (hBv.mono HBX.out.size))
      clear hBv
      go_wp2_with fail
      go_ret
      exact ⟨rfl, HBv.out⟩
    | some v2 =>
      obtain ⟨x2, rfl, hok2, his2⟩ := hm
      obtain ⟨W7, hW7, hth, hrg, hB7, hz7⟩ := box_put w6 x2.cells rfl z37 rfl
      obtain ⟨st, hst, hs2, hs3, hs4⟩ := dec_facts HDR.out.symm
      have hvo := ans_zero (show LdAns v2 0 from by have := (HLDF.out v2).2; rw [hs4] at this; exact this)
      obtain ⟨hrs, hbk⟩ := back_enc hst hs2 hs3 hvo his2
      have hen := imgEncode_any W7 _ (nrm x2) (nrm_ok (dmOk_md hok2 (F := none') (Mod.of_below hB7) (fun _ _ _ => id))) 0 (fun _ => hvo.fitD hrs his2) (fun W sb S U h1 h2 => by
        have := (HLDF.out v2).1 W sb S U (nrm x2) h1 h2 (nrm_is his2)
        rw [hs4] at this; exact this)
      rw [hbk, nrm_cells] at hen
      have HEN := Lib.hid hen
      have HTH := Lib.hid hth
      have HW7 := Lib.hid hW7
      have HRG := Lib.hid hrg
      have HBX := Lib.hid (HBX.out.trans ((hB6.trans (hB7.mono hB6.size)).mono HBX.out.size))
      clear hB6 hB7 hz7 hrg hth hW7 hok2 his2 hst hs2 hs3 hs4 hvo hrs hbk hen
      unfold z37 at HTH HW7
      go_wp2_with (first
        | (refine wpList_load_mid (by rfl) 32 _ (by rfl) w6.heap.size 0 (by rfl) x2.cells _ HRG.out Tryz.underlying32 rfl (dm37b _) ?_)
        | (refine wpList_store_mid (by rfl) 32 _ _ (by rfl) w6.heap.size 0 x2.cells.toArray (by rfl) (by rfl) HTH.out (by kernel_rfl) (DmC.one _) ?_; rw [← HW7.out]))
      refine HEN.out.mono ?_
      rintro e w8 ⟨rfl, hB8⟩
      have HBX := Lib.hid (HBX.out.trans (hB8.mono HBX.out.size))
      clear hB8
      go_wp2_with fail
      refine (wakes26_any _).mono ?_
      rintro e wv ⟨rfl, hBv⟩
      have HBv := Lib.hid (HBX.out.trans (hBv.mono HBX.out.size))
      clear hBv
      go_wp2_with fail
      go_ret
      exact ⟨rfl, HBv.out⟩
  · have h0' : (ec == 0) = false := by simpa using h0
    clear h0 HEB
    have hdc := imgDecode_any w4 s HSZ.out ldf (fun v st h => (HLDF.out v).1)
    unfold IDecPost at hdc
    obtain ⟨dr, hdr⟩ : ∃ dr, dr = decP ldf s := ⟨_, rfl⟩
    rw [← hdr] at hdc
    have HDR := Lib.hid hdr
    clear hdr
    go_wp2_with fail
    refine hdc.mono ?_
    clear hdc
    rintro e w6 ⟨hB6, hm⟩
    cases dr with
    | none =>
      have hm : e = .returned (.tuple #[.agg dumpZ.toArray, .int .i64 11]) := hm
      subst hm
      obtain ⟨W7, hW7, hth, hrg, hB7, hz7⟩ := box_put w6 dumpZ rfl z37 rfl
      have HTH := Lib.hid hth
      have HW7 := Lib.hid hW7
      have HBX := Lib.hid (HBX.out.trans ((hB6.trans (hB7.mono hB6.size)).mono HBX.out.size))
      clear hB6 hB7 hz7 hrg hth hW7
      unfold z37 at HTH HW7
      go_wp2_with (refine wpList_store_mid (by rfl) 32 _ _ (by rfl) w6.heap.size 0 dumpZ.toArray (by rfl) (by rfl) HTH.out (by kernel_rfl) (dmZ_one _ _ _ _ _ _ _ _ _ _ _) ?_; rw [← HW7.out])
      refine (wakes26_any _).mono ?_
      rintro e wv ⟨rfl, hBv⟩
      have HBv := Lib.hid (HBX.out.trans (hBv.mono HBX.out.size))
      clear hBv
      go_wp2_with fail
      go_ret
      exact ⟨rfl, HBv.out⟩
    | some v2 =>
      obtain ⟨x2, rfl, hok2, his2⟩ := hm
      obtain ⟨W7, hW7, hth, hrg, hB7, hz7⟩ := box_put w6 x2.cells rfl z37 rfl
      obtain ⟨st, hst, hs2, hs3, hs4⟩ := dec_facts HDR.out.symm
      have hvo := ans_zero (show LdAns v2 0 from by have := (HLDF.out v2).2; rw [hs4] at this; exact this)
      obtain ⟨hrs, hbk⟩ := back_enc hst hs2 hs3 hvo his2
      have hen := imgEncode_any W7 _ (nrm x2) (nrm_ok (dmOk_md hok2 (F := none') (Mod.of_below hB7) (fun _ _ _ => id))) 0 (fun _ => hvo.fitD hrs his2) (fun W sb S U h1 h2 => by
        have := (HLDF.out v2).1 W sb S U (nrm x2) h1 h2 (nrm_is his2)
        rw [hs4] at this; exact this)
      rw [hbk, nrm_cells] at hen
      have HEN := Lib.hid hen
      have HTH := Lib.hid hth
      have HW7 := Lib.hid hW7
      have HRG := Lib.hid hrg
      have HBX := Lib.hid (HBX.out.trans ((hB6.trans (hB7.mono hB6.size)).mono HBX.out.size))
      clear hB6 hB7 hz7 hrg hth hW7 hok2 his2 hst hs2 hs3 hs4 hvo hrs hbk hen
      unfold z37 at HTH HW7
      go_wp2_with (first
        | (refine wpList_load_mid (by rfl) 32 _ (by rfl) w6.heap.size 0 (by rfl) x2.cells _ HRG.out Tryz.underlying32 rfl (dm37b _) ?_)
        | (refine wpList_store_mid (by rfl) 32 _ _ (by rfl) w6.heap.size 0 x2.cells.toArray (by rfl) (by rfl) HTH.out (by kernel_rfl) (DmC.one _) ?_; rw [← HW7.out]))
      refine HEN.out.mono ?_
      rintro e w8 ⟨rfl, hB8⟩
      have HBX := Lib.hid (HBX.out.trans (hB8.mono HBX.out.size))
      clear hB8
      go_wp2_with fail
      refine (wakes26_any _).mono ?_
      rintro e wv ⟨rfl, hBv⟩
      have HBv := Lib.hid (HBX.out.trans (hBv.mono HBX.out.size))
      clear hBv
      go_wp2_with fail
      go_ret
      exact ⟨rfl, HBv.out⟩
end Go.Proofs.YtmnkackkeppheaaGreat
