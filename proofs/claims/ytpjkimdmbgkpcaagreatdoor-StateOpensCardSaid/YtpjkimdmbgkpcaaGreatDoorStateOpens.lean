/- the law StateOpens: the walk -/
import Derived.Test.YtpjkimdmbgkpcaaGreatDoorPkSoA
import Derived.Test.YtpjkimdmbgkpcaaGreatDoorInoParts
namespace Go.Proofs.YtpjkimdmbgkpcaaGreatDoor
open Go.RowKit Esch Go.Shelf

set_option linter.unusedSimpArgs false
def StepPost (w0 W : World) (b : Nat) (S : Nat → Prop) (r : ASt) (e : Ending) (w' : World) : Prop := e = .returned (.tuple #[.agg #[.int .i64 r.1.1.1, .int .i64 r.1.1.2], .bool r.1.2.1, .int .i64 r.1.2.2]) ∧ (∃ S', SttAt w' b S' r.2 ∧ (∀ n, S' n → w0.heap.size ≤ n) ∧ ∀ n, n < W.heap.size → ¬ S n → ¬ S' n) ∧ Below w0.heap.size w0 w' ∧ Mod S W w'
theorem apStep (w0 W : World) (b : Nat) (S : Nat → Prop) (s : StS) (hS : SttAt W b S s) (hok : s.ok) (hSB : ∀ n, S n → w0.heap.size ≤ n) (hB : Below w0.heap.size w0 W) (hf : FieldsAt w0) (hw : 0 < w0.heap.size) (addr kind : Int) (text : ByteArray) (hts : text.size ≤ 9223372036854775807) (h6 : ∀ r, decOp text = some r → r.1.kind = 1 ∨ r.1.kind = 3 ∨ r.1.kind = 5 ∨ r.1.kind = 8 ∨ r.1.kind = 9 ∨ r.1.kind = 10) :
    Calls Tryz.prog 16 #[.pointer (some ⟨b, 0, none⟩), .int .i64 addr, .int .i64 kind, .string text] W (StepPost w0 W b S (s.apply addr kind text)) := by
  refine (stApplyS_any W b S s hS hok addr kind text hts (hf.below hB hw) (fun h => by have := hSB 0 h; omega) h6).mono ?_
  rintro e w' ⟨h1, h2, h3⟩
  refine ⟨h1, ⟨growI S W w', h2, fun n hn => hn.elim (hSB n) (fun h => Nat.le_trans hB.size h.1), fun n hn h hg => hg.elim h (fun h => by omega)⟩, hB.trans (h3.below_at hB.size (fun k hk h => by have := hSB k h; omega)), h3⟩
def soS (k o n : Nat) : Nat → StS
  | 0 => so0 k
  | 1 => so1 k
  | 2 => so2 k
  | 3 => so3 k
  | _ => so4 k o n
def SoRel1 (w0 : World) (b k : Nat) (g : Nat) (v : Value) (wr : World) : Prop := ∃ (i : Nat) (S : Nat → Prop), g = k - i ∧ i ≤ k ∧ v = .int .i64 i ∧ SttAt wr b S (so0 i) ∧ (∀ n, S n → w0.heap.size ≤ n) ∧ Below w0.heap.size w0 wr
def soCells (k at_ : Nat) (d : Nm) : List Value := [.int .i64 0, .int .i64 1, .int .i64 3, .string ⟨#[47, 97]⟩, .string ⟨#[]⟩, .int .i64 0, .int .i64 0, .int .i64 0, .string ⟨#[]⟩, .int .i64 0, .int .i64 0, .slice none 0 0, .int .i64 0, .int .i64 2, .int .i64 8, .string ⟨#[47, 97]⟩, .string ⟨#[]⟩, .int .i64 0, .int .i64 0, .int .i64 0, .string ⟨#[]⟩, .int .i64 0, .int .i64 0, .slice none 0 0, .int .i64 0, .int .i64 3, .int .i64 5, .string ⟨#[47, 97]⟩, .string ⟨#[]⟩, .int .i64 0, .int .i64 0, .int .i64 0, .string ⟨#[]⟩, .int .i64 0, .int .i64 0, .slice none 0 0, .int .i64 0, .int .i64 4, .int .i64 10, .string ⟨#[]⟩, .string ⟨#[]⟩, .int .i64 0, .int .i64 ((k : Int) + 1), .int .i64 (at_ : Int), .string (bs d), .int .i64 0, .int .i64 0, .slice none 0 0]
def SoRel2 (w0 : World) (b ob k at_ : Nat) (d : Nm) (g : Nat) (v : Value) (wr : World) : Prop := ∃ (i : Nat) (S : Nat → Prop), g = 4 - i ∧ i ≤ 4 ∧ v = .int .i64 i ∧ SttAt wr b S (soS k at_ d.length i) ∧ (∀ n, S n → w0.heap.size ≤ n) ∧ Below w0.heap.size w0 wr ∧ ¬ S ob ∧ ∀ m, m < 48 → wr.cell? ⟨ob, m, none⟩ = (soCells k at_ d)[m]?
theorem so0_ok (i : Nat) (hi : i ≤ 16384) : (so0 i).ok := ⟨tr0_ok, (fun e he => by cases he), by show ((0 : Nat) : Int) ≤ (i : Int); omega, by show (0 : Int) ≤ i; omega, by show (i : Int) ≤ 16384; omega⟩
theorem so_oks (k o : Nat) (d : Nm) (hk : k < 20) (ho : o < 4000) (hn : 1 ≤ d.length ∧ d.length ≤ 1024) : (so1 k).ok ∧ (so2 k).ok ∧ (so3 k).ok ∧ (so4 k o d.length).ok := by
  have h0 := so0_ok k (by omega)
  have h1 := h0.apply k 1 (bs (headL 3 0 1 ++ textL wkP))
  rw [so_a1 k hk] at h1
  have h2 := h1.apply ((k : Int) + 1) 1 (bs (headL 8 0 2 ++ textL wkP))
  rw [so_a2 k hk] at h2
  have h3 := h2.apply ((k : Int) + 2) 1 (bs (headL 5 0 3 ++ textL wkP))
  rw [so_a3 k hk] at h3
  have h4 := h3.apply ((k : Int) + 3) 1 (bs (headL 10 0 4 ++ (putB (k + 1) 4 ++ (putB o 4 ++ textL d))))
  rw [so_a4 k hk o d ho hn] at h4
  exact ⟨h1, h2, h3, h4⟩
theorem so_sz (l : List UInt8) (h : l.length ≤ 5000) : (bs l).size ≤ 9223372036854775807 := by rw [bs_size]; omega
set_option maxRecDepth 100000 in
set_option maxHeartbeats 16000000 in
theorem stateOpens_walk (w : World) (hf : FieldsAt w) (hw : 0 < w.heap.size) (j o : Nat) (hj : j < 256) (ho : o < 65536) (dd : ByteArray) :
    Calls Tryz.prog 4 #[.int .u8 j, .int .u16 o, .string dd] w fun e w' => e = .returned (.bool true) ∧ Below w.heap.size w w' := by
  have HF := Lib.hid hf
  obtain ⟨d, rfl⟩ : ∃ d : Nm, dd = bs d := ⟨dd.data.toList, rfl⟩
  have hwj : IntKind.i64.wrap (j : Int) = (j : Int) := by rw [IntKind.wrap_i64]; omega
  have hwo : IntKind.i64.wrap (o : Int) = (o : Int) := by rw [IntKind.wrap_i64]; omega
  obtain ⟨k, hkd⟩ : ∃ k, k = j % 20 := ⟨_, rfl⟩
  obtain ⟨at_, hod⟩ : ∃ a, a = o % 4000 := ⟨_, rfl⟩
  have htj : (j : Int).tmod 20 = (k : Int) := by rw [hkd, Int.tmod_eq_emod_of_nonneg (by omega)]; omega
  have hto : (o : Int).tmod 4000 = (at_ : Int) := by rw [hod, Int.tmod_eq_emod_of_nonneg (by omega)]; omega
  have hk20 : k < 20 := by omega
  have ho4 : at_ < 4000 := by omega
  clear hf hkd hod
  by_cases hd : 1 ≤ d.length ∧ d.length ≤ 1024
  rotate_left 1
  · have hcs : (d.length : Int) < 1 ∨ (¬ ((d.length : Int) < 1) ∧ (1024 : Int) < d.length) := by omega
    clear hd
    rcases hcs with h1 | ⟨h1, h2⟩
    all_goals
      go_enter Tryz.func4, Tryz.ntmps4
      go_wp2_with fail
      refine (stNew_any _).mono ?_
      rintro e w1 ⟨b, rfl, hS1, hB1⟩
      have HBW := Lib.hid hB1
      clear hS1 hB1
      go_wp2_with fail
      refine (wakes25_any _ (HF.out.below HBW.out hw) (Nat.lt_of_lt_of_le hw HBW.out.size)).mono ?_
      rintro e wz ⟨rfl, hBz⟩
      go_wp2_with fail
      go_ret
      exact ⟨rfl, HBW.out.trans (hBz.mono HBW.out.size)⟩
  have hd2 := Lib.hid hd
  have hn1 : ¬ ((d.length : Int) < 1) := by omega
  have hn2 : ¬ ((1024 : Int) < d.length) := by omega
  have HOK := Lib.hid (so_oks k at_ d hk20 ho4 hd)
  clear hd
  go_enter Tryz.func4, Tryz.ntmps4
  go_wp2_with fail
  refine (stNew_any _).mono ?_
  rintro e w1 ⟨b, rfl, hS1, hB1⟩
  have HS1 := Lib.hid hS1
  have HB1 := Lib.hid hB1
  clear hS1 hB1
  go_wp2_with fail
  go_loopg [10] k (fun g v wr => SoRel1 w b k g v wr)
  case atStart => exact ⟨0, _, rfl, Nat.zero_le _, rfl, HS1.out, fun n hn => hn.1, HB1.out⟩
  case round =>
    obtain ⟨i, S, hg, hi, rfl, hS, hSB, hB⟩ := hrel
    subst hg
    have HS := Lib.hid hS
    have HSB := Lib.hid hSB
    have HBW := Lib.hid hB
    clear hS hSB hB
    by_cases hlt : i < k
    · have hil : (i : Int) < k := by omega
      have hap := apStep w wr b S (so0 i) HS.out (so0_ok i (by omega)) HSB.out HBW.out HF.out hw i 2 ⟨#[]⟩ (by decide) (fun r h => by rw [dec_nil] at h; cases h)
      rw [so_junk i (by omega)] at hap
      have hwi : wrap64 ((i : Int) + 1) = ((i + 1 : Nat) : Int) := by unfold wrap64; omega
      have HWI := Lib.hid hwi
      have hms : k - (i + 1) < k - i := Nat.sub_lt_sub_left hlt (Nat.lt_succ_self i)
      clear hwi
      go_wp2_with fail
      refine hap.mono ?_
      clear hap
      rintro e w3 ⟨rfl, ⟨S3, hS3, hSB3, -⟩, hB3, hM3⟩
      simp only at hS3 ⊢
      obtain ⟨w4, hw4⟩ : ∃ w4, w4 = w3.alloc (.cells #[.int .i64 0, .int .i64 0] 28) := ⟨_, rfl⟩
      have hB4 : Below w3.heap.size w3 w4 := by rw [hw4]; exact belC (Below.refl _ _)
      have HS4 := Lib.hid (hS3.below' hB4)
      have HB4 := Lib.hid (hB3.trans (hB4.mono hB3.size))
      have HSB4 := Lib.hid hSB3
      have HW4 := Lib.hid hw4
      clear hS3 hM3 hB4 hw4 hB3 hSB3
      go_wp2_with fail
      rw [← HW4.out]
      go_roundg (k - (i + 1))
      case measure => exact hms
      case rel => exact ⟨i + 1, S3, rfl, by omega, by first | rfl | rw [HWI.out], HS4.out, HSB4.out, HB4.out⟩
    · obtain rfl : k = i := by omega
      have hge : ¬ (k : Int) < k := by omega
      clear hlt hi
      go_wp2_with fail
      obtain ⟨ob, hob⟩ : ∃ ob, ob = wr.heap.size := ⟨_, rfl⟩
      obtain ⟨w5, hw5⟩ : ∃ w5, w5 = wr.alloc (.cells #[.int .i64 0, .int .i64 1, .int .i64 3, .string ⟨#[47, 97]⟩, .string ⟨#[]⟩, .int .i64 0, .int .i64 0, .int .i64 0, .string ⟨#[]⟩, .int .i64 0, .int .i64 0, .slice none 0 0, .int .i64 0, .int .i64 2, .int .i64 8, .string ⟨#[47, 97]⟩, .string ⟨#[]⟩, .int .i64 0, .int .i64 0, .int .i64 0, .string ⟨#[]⟩, .int .i64 0, .int .i64 0, .slice none 0 0, .int .i64 0, .int .i64 3, .int .i64 5, .string ⟨#[47, 97]⟩, .string ⟨#[]⟩, .int .i64 0, .int .i64 0, .int .i64 0, .string ⟨#[]⟩, .int .i64 0, .int .i64 0, .slice none 0 0, .int .i64 0, .int .i64 4, .int .i64 10, .string ⟨#[]⟩, .string ⟨#[]⟩, .int .i64 0, .int .i64 ((k : Int) + 1), .int .i64 (at_ : Int), .string (bs d), .int .i64 0, .int .i64 0, .slice none 0 0] 47) := ⟨_, rfl⟩
      have hB5 : Below wr.heap.size wr w5 := by rw [hw5]; exact belC (Below.refl _ _)
      have HS5 := Lib.hid (HS.out.below' hB5)
      have HB5 := Lib.hid (HBW.out.trans (hB5.mono HBW.out.size))
      have HNO := Lib.hid (show ¬ S ob from fun h => by have := HS.out.lt ob h; omega)
      have HRW5 : Hid (∀ m, m < 48 → w5.cell? ⟨ob, m, none⟩ = (soCells k at_ d)[m]?) := Lib.hid (fun m hm => by
        rw [hw5, hob, World.cell?_alloc_new]
        show (soCells k at_ d).toArray[m]? = _
        rw [List.getElem?_toArray])
      have HW5 := Lib.hid hw5
      have HOB := Lib.hid hob
      have HSB5 := Lib.hid HSB.out
      clear hw5 hB5 HS HSB HBW hge
      rw [← HW5.out, ← HOB.out]
      clear HW5 HOB hob
      go_loopg [15] 4 (fun g v wr => SoRel2 w b ob k at_ d g v wr)
      case atStart => exact ⟨0, S, rfl, by omega, rfl, HS5.out, HSB5.out, HB5.out, HNO.out, HRW5.out⟩
      clear HS5 HSB5 HB5 HNO HRW5 S
      case round =>
        obtain ⟨i, S, hg, hi, hv, hS, hSB, hB, hno, hrw⟩ := hrel
        subst hg
        have HSS := Lib.hid hS
        have HSB := Lib.hid hSB
        have HBB := Lib.hid hB
        have HNO := Lib.hid hno
        have HRW : Hid (∀ m, m < 48 → wr.cell? ⟨ob, m, none⟩ = (soCells k at_ d)[m]?) := Lib.hid hrw
        clear hS hSB hB hno hrw
        have hcs : i = 0 ∨ i = 1 ∨ i = 2 ∨ i = 3 ∨ i = 4 := by omega
        clear hi
        rcases hcs with rfl | rfl | rfl | rfl | rfl
        · replace hv : _ = Value.int .i64 (0 : Int) := hv
          subst hv
          have z0 : wr.cell? ⟨ob, 0, none⟩ = some (.int .i64 0) := HRW.out 0 (by decide)
          have z1 : wr.cell? ⟨ob, 1, none⟩ = some (.int .i64 1) := HRW.out 1 (by decide)
          have z2 : wr.cell? ⟨ob, 2, none⟩ = some (.int .i64 3) := HRW.out 2 (by decide)
          have z3 : wr.cell? ⟨ob, 3, none⟩ = some (.string ⟨#[47, 97]⟩) := HRW.out 3 (by decide)
          have z4 : wr.cell? ⟨ob, 4, none⟩ = some (.string ⟨#[]⟩) := HRW.out 4 (by decide)
          have z5 : wr.cell? ⟨ob, 5, none⟩ = some (.int .i64 0) := HRW.out 5 (by decide)
          have z6 : wr.cell? ⟨ob, 6, none⟩ = some (.int .i64 0) := HRW.out 6 (by decide)
          have z7 : wr.cell? ⟨ob, 7, none⟩ = some (.int .i64 0) := HRW.out 7 (by decide)
          have z8 : wr.cell? ⟨ob, 8, none⟩ = some (.string ⟨#[]⟩) := HRW.out 8 (by decide)
          have z9 : wr.cell? ⟨ob, 9, none⟩ = some (.int .i64 0) := HRW.out 9 (by decide)
          have z10 : wr.cell? ⟨ob, 10, none⟩ = some (.int .i64 0) := HRW.out 10 (by decide)
          have z11 : wr.cell? ⟨ob, 11, none⟩ = some (.slice none 0 0) := HRW.out 11 (by decide)
          have hobl := cell_lt z0
          have htx : ∀ W, Calls Tryz.prog 17 #[.agg #[.int .i64 0, .int .i64 1, .int .i64 3, .string ⟨#[47, 97]⟩, .string ⟨#[]⟩, .int .i64 0, .int .i64 0, .int .i64 0, .string ⟨#[]⟩, .int .i64 0, .int .i64 0, .slice none 0 0]] W fun e w' => e = .returned (.string (bs (headL 3 0 1 ++ textL wkP))) ∧ Below W.heap.size W w' := fun W => text25_any W (opP 3 0 1 wkP) _ (fun W => encP3_any W 0 1 wkP (by decide) (by decide) (by decide) (by decide))
          obtain ⟨tx, htxd⟩ : ∃ tx, tx = bs (headL 3 0 1 ++ textL wkP) := ⟨_, rfl⟩
          rw [← htxd] at htx
          have HTX := Lib.hid htxd
          have hts : tx.size ≤ 9223372036854775807 := by rw [htxd]; exact so_sz _ (by simp [headL_len, textL, putB_length, wkP]; try (have := hd2.out; omega))
          have h6 : ∀ r, decOp tx = some r → r.1.kind = 1 ∨ r.1.kind = 3 ∨ r.1.kind = 5 ∨ r.1.kind = 8 ∨ r.1.kind = 9 ∨ r.1.kind = 10 := fun r h => by
            rw [htxd, dec_opP 3 0 1 wkP (by decide) (by decide) (by decide) (by decide) (by decide)] at h
            cases h
            exact Or.inr (Or.inl rfl)
          clear htxd
          go_wp2_with fail
          refine (htx _).mono ?_
          clear htx
          rintro e w2 ⟨rfl, hB2⟩
          have hap := apStep w w2 b S (so0 k) (HSS.out.below' hB2) (so0_ok k (by omega)) HSB.out (HBB.out.trans (hB2.mono HBB.out.size)) HF.out hw (k : Int) 1 tx hts h6
          rw [HTX.out, so_a1 k hk20, ← HTX.out] at hap
          have HRW2 : Hid (∀ m, m < 48 → w2.cell? ⟨ob, m, none⟩ = (soCells k at_ d)[m]?) := Lib.hid (fun m hm => (hB2.cell (p := ⟨ob, m, none⟩) hobl).trans (HRW.out m hm))
          have hobl2 : ob < w2.heap.size := Nat.lt_of_lt_of_le hobl hB2.size
          clear hB2 h6 hts z0 z1 z2 z3 z4 z5 z6 z7 z8 z9 z10 z11
          go_wp2_with fail
          refine hap.mono ?_
          clear hap
          rintro e w3 ⟨rfl, ⟨S3, hS3, hSB3, hno3⟩, hB3, hM3⟩
          simp only at hS3 ⊢
          obtain ⟨w4, hw4⟩ : ∃ w4, w4 = w3.alloc (.cells #[.int .i64 0, .int .i64 0] 28) := ⟨_, rfl⟩
          have hB4 : Below w3.heap.size w3 w4 := by rw [hw4]; exact belC (Below.refl _ _)
          have HS4 := Lib.hid (hS3.below' hB4)
          have HB4 := Lib.hid (hB3.trans (hB4.mono hB3.size))
          have HSB4 := Lib.hid hSB3
          have HNO4 : Hid (¬ S3 ob) := Lib.hid (hno3 ob hobl2 HNO.out)
          have HRW4 : Hid (∀ m, m < 48 → w4.cell? ⟨ob, m, none⟩ = (soCells k at_ d)[m]?) := Lib.hid (fun m hm => (hB4.cell (p := ⟨ob, m, none⟩) (Nat.lt_of_lt_of_le hobl2 hM3.size)).trans ((hM3.cell (p := ⟨ob, m, none⟩) hobl2 HNO.out).trans (HRW2.out m hm)))
          have HW4 := Lib.hid hw4
          clear hS3 hM3 hB4 hw4 hB3 hSB3 hno3
          go_wp2_with fail
          rw [← HW4.out]
          go_roundg (4 - (0 + 1))
          case measure => omega
          case rel => exact ⟨0 + 1, S3, rfl, by omega, by first | rfl | simp, HS4.out, HSB4.out, HB4.out, HNO4.out, HRW4.out⟩
        · replace hv : _ = Value.int .i64 (1 : Int) := hv
          subst hv
          have z0 : wr.cell? ⟨ob, 12, none⟩ = some (.int .i64 0) := HRW.out 12 (by decide)
          have z1 : wr.cell? ⟨ob, 13, none⟩ = some (.int .i64 2) := HRW.out 13 (by decide)
          have z2 : wr.cell? ⟨ob, 14, none⟩ = some (.int .i64 8) := HRW.out 14 (by decide)
          have z3 : wr.cell? ⟨ob, 15, none⟩ = some (.string ⟨#[47, 97]⟩) := HRW.out 15 (by decide)
          have z4 : wr.cell? ⟨ob, 16, none⟩ = some (.string ⟨#[]⟩) := HRW.out 16 (by decide)
          have z5 : wr.cell? ⟨ob, 17, none⟩ = some (.int .i64 0) := HRW.out 17 (by decide)
          have z6 : wr.cell? ⟨ob, 18, none⟩ = some (.int .i64 0) := HRW.out 18 (by decide)
          have z7 : wr.cell? ⟨ob, 19, none⟩ = some (.int .i64 0) := HRW.out 19 (by decide)
          have z8 : wr.cell? ⟨ob, 20, none⟩ = some (.string ⟨#[]⟩) := HRW.out 20 (by decide)
          have z9 : wr.cell? ⟨ob, 21, none⟩ = some (.int .i64 0) := HRW.out 21 (by decide)
          have z10 : wr.cell? ⟨ob, 22, none⟩ = some (.int .i64 0) := HRW.out 22 (by decide)
          have z11 : wr.cell? ⟨ob, 23, none⟩ = some (.slice none 0 0) := HRW.out 23 (by decide)
          have hobl := cell_lt z0
          have htx : ∀ W, Calls Tryz.prog 17 #[.agg #[.int .i64 0, .int .i64 2, .int .i64 8, .string ⟨#[47, 97]⟩, .string ⟨#[]⟩, .int .i64 0, .int .i64 0, .int .i64 0, .string ⟨#[]⟩, .int .i64 0, .int .i64 0, .slice none 0 0]] W fun e w' => e = .returned (.string (bs (headL 8 0 2 ++ textL wkP))) ∧ Below W.heap.size W w' := fun W => text25_any W (opP 8 0 2 wkP) _ (fun W => encP8_any W 0 2 wkP (by decide) (by decide) (by decide) (by decide))
          obtain ⟨tx, htxd⟩ : ∃ tx, tx = bs (headL 8 0 2 ++ textL wkP) := ⟨_, rfl⟩
          rw [← htxd] at htx
          have HTX := Lib.hid htxd
          have hts : tx.size ≤ 9223372036854775807 := by rw [htxd]; exact so_sz _ (by simp [headL_len, textL, putB_length, wkP]; try (have := hd2.out; omega))
          have h6 : ∀ r, decOp tx = some r → r.1.kind = 1 ∨ r.1.kind = 3 ∨ r.1.kind = 5 ∨ r.1.kind = 8 ∨ r.1.kind = 9 ∨ r.1.kind = 10 := fun r h => by
            rw [htxd, dec_opP 8 0 2 wkP (by decide) (by decide) (by decide) (by decide) (by decide)] at h
            cases h
            exact Or.inr (Or.inr (Or.inr (Or.inl rfl)))
          clear htxd
          go_wp2_with fail
          refine (htx _).mono ?_
          clear htx
          rintro e w2 ⟨rfl, hB2⟩
          have hap := apStep w w2 b S (so1 k) (HSS.out.below' hB2) (HOK.out.1) HSB.out (HBB.out.trans (hB2.mono HBB.out.size)) HF.out hw ((k : Int) + 1) 1 tx hts h6
          rw [HTX.out, so_a2 k hk20, ← HTX.out] at hap
          have HRW2 : Hid (∀ m, m < 48 → w2.cell? ⟨ob, m, none⟩ = (soCells k at_ d)[m]?) := Lib.hid (fun m hm => (hB2.cell (p := ⟨ob, m, none⟩) hobl).trans (HRW.out m hm))
          have hobl2 : ob < w2.heap.size := Nat.lt_of_lt_of_le hobl hB2.size
          clear hB2 h6 hts z0 z1 z2 z3 z4 z5 z6 z7 z8 z9 z10 z11
          go_wp2_with fail
          refine hap.mono ?_
          clear hap
          rintro e w3 ⟨rfl, ⟨S3, hS3, hSB3, hno3⟩, hB3, hM3⟩
          simp only at hS3 ⊢
          obtain ⟨w4, hw4⟩ : ∃ w4, w4 = w3.alloc (.cells #[.int .i64 0, .int .i64 ((k : Int) + 1)] 28) := ⟨_, rfl⟩
          have hB4 : Below w3.heap.size w3 w4 := by rw [hw4]; exact belC (Below.refl _ _)
          have HS4 := Lib.hid (hS3.below' hB4)
          have HB4 := Lib.hid (hB3.trans (hB4.mono hB3.size))
          have HSB4 := Lib.hid hSB3
          have HNO4 : Hid (¬ S3 ob) := Lib.hid (hno3 ob hobl2 HNO.out)
          have HRW4 : Hid (∀ m, m < 48 → w4.cell? ⟨ob, m, none⟩ = (soCells k at_ d)[m]?) := Lib.hid (fun m hm => (hB4.cell (p := ⟨ob, m, none⟩) (Nat.lt_of_lt_of_le hobl2 hM3.size)).trans ((hM3.cell (p := ⟨ob, m, none⟩) hobl2 HNO.out).trans (HRW2.out m hm)))
          have HW4 := Lib.hid hw4
          clear hS3 hM3 hB4 hw4 hB3 hSB3 hno3
          go_wp2_with fail
          rw [← HW4.out]
          go_roundg (4 - (1 + 1))
          case measure => omega
          case rel => exact ⟨1 + 1, S3, rfl, by omega, by first | rfl | simp, HS4.out, HSB4.out, HB4.out, HNO4.out, HRW4.out⟩
        · replace hv : _ = Value.int .i64 (2 : Int) := hv
          subst hv
          have z0 : wr.cell? ⟨ob, 24, none⟩ = some (.int .i64 0) := HRW.out 24 (by decide)
          have z1 : wr.cell? ⟨ob, 25, none⟩ = some (.int .i64 3) := HRW.out 25 (by decide)
          have z2 : wr.cell? ⟨ob, 26, none⟩ = some (.int .i64 5) := HRW.out 26 (by decide)
          have z3 : wr.cell? ⟨ob, 27, none⟩ = some (.string ⟨#[47, 97]⟩) := HRW.out 27 (by decide)
          have z4 : wr.cell? ⟨ob, 28, none⟩ = some (.string ⟨#[]⟩) := HRW.out 28 (by decide)
          have z5 : wr.cell? ⟨ob, 29, none⟩ = some (.int .i64 0) := HRW.out 29 (by decide)
          have z6 : wr.cell? ⟨ob, 30, none⟩ = some (.int .i64 0) := HRW.out 30 (by decide)
          have z7 : wr.cell? ⟨ob, 31, none⟩ = some (.int .i64 0) := HRW.out 31 (by decide)
          have z8 : wr.cell? ⟨ob, 32, none⟩ = some (.string ⟨#[]⟩) := HRW.out 32 (by decide)
          have z9 : wr.cell? ⟨ob, 33, none⟩ = some (.int .i64 0) := HRW.out 33 (by decide)
          have z10 : wr.cell? ⟨ob, 34, none⟩ = some (.int .i64 0) := HRW.out 34 (by decide)
          have z11 : wr.cell? ⟨ob, 35, none⟩ = some (.slice none 0 0) := HRW.out 35 (by decide)
          have hobl := cell_lt z0
          have htx : ∀ W, Calls Tryz.prog 17 #[.agg #[.int .i64 0, .int .i64 3, .int .i64 5, .string ⟨#[47, 97]⟩, .string ⟨#[]⟩, .int .i64 0, .int .i64 0, .int .i64 0, .string ⟨#[]⟩, .int .i64 0, .int .i64 0, .slice none 0 0]] W fun e w' => e = .returned (.string (bs (headL 5 0 3 ++ textL wkP))) ∧ Below W.heap.size W w' := fun W => text25_any W (opP 5 0 3 wkP) _ (fun W => encP5_any W 0 3 wkP (by decide) (by decide) (by decide) (by decide))
          obtain ⟨tx, htxd⟩ : ∃ tx, tx = bs (headL 5 0 3 ++ textL wkP) := ⟨_, rfl⟩
          rw [← htxd] at htx
          have HTX := Lib.hid htxd
          have hts : tx.size ≤ 9223372036854775807 := by rw [htxd]; exact so_sz _ (by simp [headL_len, textL, putB_length, wkP]; try (have := hd2.out; omega))
          have h6 : ∀ r, decOp tx = some r → r.1.kind = 1 ∨ r.1.kind = 3 ∨ r.1.kind = 5 ∨ r.1.kind = 8 ∨ r.1.kind = 9 ∨ r.1.kind = 10 := fun r h => by
            rw [htxd, dec_opP 5 0 3 wkP (by decide) (by decide) (by decide) (by decide) (by decide)] at h
            cases h
            exact Or.inr (Or.inr (Or.inl rfl))
          clear htxd
          go_wp2_with fail
          refine (htx _).mono ?_
          clear htx
          rintro e w2 ⟨rfl, hB2⟩
          have hap := apStep w w2 b S (so2 k) (HSS.out.below' hB2) (HOK.out.2.1) HSB.out (HBB.out.trans (hB2.mono HBB.out.size)) HF.out hw ((k : Int) + 2) 1 tx hts h6
          rw [HTX.out, so_a3 k hk20, ← HTX.out] at hap
          have HRW2 : Hid (∀ m, m < 48 → w2.cell? ⟨ob, m, none⟩ = (soCells k at_ d)[m]?) := Lib.hid (fun m hm => (hB2.cell (p := ⟨ob, m, none⟩) hobl).trans (HRW.out m hm))
          have hobl2 : ob < w2.heap.size := Nat.lt_of_lt_of_le hobl hB2.size
          clear hB2 h6 hts z0 z1 z2 z3 z4 z5 z6 z7 z8 z9 z10 z11
          go_wp2_with fail
          refine hap.mono ?_
          clear hap
          rintro e w3 ⟨rfl, ⟨S3, hS3, hSB3, hno3⟩, hB3, hM3⟩
          simp only at hS3 ⊢
          obtain ⟨w4, hw4⟩ : ∃ w4, w4 = w3.alloc (.cells #[.int .i64 0, .int .i64 0] 28) := ⟨_, rfl⟩
          have hB4 : Below w3.heap.size w3 w4 := by rw [hw4]; exact belC (Below.refl _ _)
          have HS4 := Lib.hid (hS3.below' hB4)
          have HB4 := Lib.hid (hB3.trans (hB4.mono hB3.size))
          have HSB4 := Lib.hid hSB3
          have HNO4 : Hid (¬ S3 ob) := Lib.hid (hno3 ob hobl2 HNO.out)
          have HRW4 : Hid (∀ m, m < 48 → w4.cell? ⟨ob, m, none⟩ = (soCells k at_ d)[m]?) := Lib.hid (fun m hm => (hB4.cell (p := ⟨ob, m, none⟩) (Nat.lt_of_lt_of_le hobl2 hM3.size)).trans ((hM3.cell (p := ⟨ob, m, none⟩) hobl2 HNO.out).trans (HRW2.out m hm)))
          have HW4 := Lib.hid hw4
          clear hS3 hM3 hB4 hw4 hB3 hSB3 hno3
          go_wp2_with fail
          rw [← HW4.out]
          go_roundg (4 - (2 + 1))
          case measure => omega
          case rel => exact ⟨2 + 1, S3, rfl, by omega, by first | rfl | simp, HS4.out, HSB4.out, HB4.out, HNO4.out, HRW4.out⟩
        · replace hv : _ = Value.int .i64 (3 : Int) := hv
          subst hv
          have z0 : wr.cell? ⟨ob, 36, none⟩ = some (.int .i64 0) := HRW.out 36 (by decide)
          have z1 : wr.cell? ⟨ob, 37, none⟩ = some (.int .i64 4) := HRW.out 37 (by decide)
          have z2 : wr.cell? ⟨ob, 38, none⟩ = some (.int .i64 10) := HRW.out 38 (by decide)
          have z3 : wr.cell? ⟨ob, 39, none⟩ = some (.string ⟨#[]⟩) := HRW.out 39 (by decide)
          have z4 : wr.cell? ⟨ob, 40, none⟩ = some (.string ⟨#[]⟩) := HRW.out 40 (by decide)
          have z5 : wr.cell? ⟨ob, 41, none⟩ = some (.int .i64 0) := HRW.out 41 (by decide)
          have z6 : wr.cell? ⟨ob, 42, none⟩ = some (.int .i64 ((k : Int) + 1)) := HRW.out 42 (by decide)
          have z7 : wr.cell? ⟨ob, 43, none⟩ = some (.int .i64 (at_ : Int)) := HRW.out 43 (by decide)
          have z8 : wr.cell? ⟨ob, 44, none⟩ = some (.string (bs d)) := HRW.out 44 (by decide)
          have z9 : wr.cell? ⟨ob, 45, none⟩ = some (.int .i64 0) := HRW.out 45 (by decide)
          have z10 : wr.cell? ⟨ob, 46, none⟩ = some (.int .i64 0) := HRW.out 46 (by decide)
          have z11 : wr.cell? ⟨ob, 47, none⟩ = some (.slice none 0 0) := HRW.out 47 (by decide)
          have hobl := cell_lt z0
          have htx : ∀ W, Calls Tryz.prog 17 #[.agg #[.int .i64 0, .int .i64 4, .int .i64 10, .string ⟨#[]⟩, .string ⟨#[]⟩, .int .i64 0, .int .i64 ((k : Int) + 1), .int .i64 (at_ : Int), .string (bs d), .int .i64 0, .int .i64 0, .slice none 0 0]] W fun e w' => e = .returned (.string (bs (headL 10 0 4 ++ (putB (k + 1) 4 ++ (putB at_ 4 ++ textL d))))) ∧ Below W.heap.size W w' := fun W => text25_any W (opW 0 4 (k + 1) at_ (bs d)) _ (fun W => encW_any W 0 4 (k + 1) at_ d (by decide) (by decide) (by omega) (by omega) hd2.out)
          obtain ⟨tx, htxd⟩ : ∃ tx, tx = bs (headL 10 0 4 ++ (putB (k + 1) 4 ++ (putB at_ 4 ++ textL d))) := ⟨_, rfl⟩
          rw [← htxd] at htx
          have HTX := Lib.hid htxd
          have hts : tx.size ≤ 9223372036854775807 := by rw [htxd]; exact so_sz _ (by simp [headL_len, textL, putB_length, wkP]; try (have := hd2.out; omega))
          have h6 : ∀ r, decOp tx = some r → r.1.kind = 1 ∨ r.1.kind = 3 ∨ r.1.kind = 5 ∨ r.1.kind = 8 ∨ r.1.kind = 9 ∨ r.1.kind = 10 := fun r h => by
            rw [htxd, dec_opW 0 4 (k + 1) at_ d (by decide) (by decide) (by omega) (by omega) hd2.out] at h
            cases h
            exact Or.inr (Or.inr (Or.inr (Or.inr (Or.inr rfl))))
          clear htxd
          go_wp2_with fail
          refine (htx _).mono ?_
          clear htx
          rintro e w2 ⟨rfl, hB2⟩
          have hap := apStep w w2 b S (so3 k) (HSS.out.below' hB2) (HOK.out.2.2.1) HSB.out (HBB.out.trans (hB2.mono HBB.out.size)) HF.out hw ((k : Int) + 3) 1 tx hts h6
          rw [HTX.out, so_a4 k hk20 at_ d ho4 hd2.out, ← HTX.out] at hap
          have HRW2 : Hid (∀ m, m < 48 → w2.cell? ⟨ob, m, none⟩ = (soCells k at_ d)[m]?) := Lib.hid (fun m hm => (hB2.cell (p := ⟨ob, m, none⟩) hobl).trans (HRW.out m hm))
          have hobl2 : ob < w2.heap.size := Nat.lt_of_lt_of_le hobl hB2.size
          clear hB2 h6 hts z0 z1 z2 z3 z4 z5 z6 z7 z8 z9 z10 z11
          go_wp2_with fail
          refine hap.mono ?_
          clear hap
          rintro e w3 ⟨rfl, ⟨S3, hS3, hSB3, hno3⟩, hB3, hM3⟩
          simp only at hS3 ⊢
          obtain ⟨w4, hw4⟩ : ∃ w4, w4 = w3.alloc (.cells #[.int .i64 0, .int .i64 0] 28) := ⟨_, rfl⟩
          have hB4 : Below w3.heap.size w3 w4 := by rw [hw4]; exact belC (Below.refl _ _)
          have HS4 := Lib.hid (hS3.below' hB4)
          have HB4 := Lib.hid (hB3.trans (hB4.mono hB3.size))
          have HSB4 := Lib.hid hSB3
          have HNO4 : Hid (¬ S3 ob) := Lib.hid (hno3 ob hobl2 HNO.out)
          have HRW4 : Hid (∀ m, m < 48 → w4.cell? ⟨ob, m, none⟩ = (soCells k at_ d)[m]?) := Lib.hid (fun m hm => (hB4.cell (p := ⟨ob, m, none⟩) (Nat.lt_of_lt_of_le hobl2 hM3.size)).trans ((hM3.cell (p := ⟨ob, m, none⟩) hobl2 HNO.out).trans (HRW2.out m hm)))
          have HW4 := Lib.hid hw4
          clear hS3 hM3 hB4 hw4 hB3 hSB3 hno3
          go_wp2_with fail
          rw [← HW4.out]
          go_roundg (4 - (3 + 1))
          case measure => omega
          case rel => exact ⟨3 + 1, S3, rfl, by omega, by first | rfl | simp, HS4.out, HSB4.out, HB4.out, HNO4.out, HRW4.out⟩
        · replace hv : _ = Value.int .i64 (4 : Int) := hv
          subst hv
          clear HRW HNO
          go_wp2_with fail
          refine (stTree_any wr b S _ HSS.out).mono ?_
          rintro e w1 ⟨⟨tb, S1, rfl, hT⟩, hq⟩
          obtain rfl := hq.symm
          clear hq
          go_wp2_with fail
          refine (trInodes_any wr tb S1 _ hT).mono ?_
          clear hT
          rintro e w1 ⟨⟨ib, S2, rfl, hI⟩, hq⟩
          obtain rfl := hq.symm
          clear hq
          go_wp2_with fail
          have hst := inoStat_any wr ib S2 _ hI 2
          rw [show (soS k at_ d.length 4).t.t.at 2 = _ from so_at2 k at_ d.length, show (soS k at_ d.length 4).t.t.has 2 = true from so_has2 k at_ d.length] at hst
          simp only [statV] at hst
          refine hst.mono ?_
          clear hst hI
          rintro e w6 ⟨rfl, hB6⟩
          obtain ⟨w7, hw7⟩ : ∃ w7, w7 = w6.alloc (.cells #[.int .i64 2, .int .i64 2, .int .i64 0, .int .i64 ((at_ : Int) + d.length)] 51) := ⟨_, rfl⟩
          have q2 : w7.cell? ⟨w6.heap.size, 2, none⟩ = some (.int .i64 0) := by rw [hw7]; go_simp
          have q3 : w7.cell? ⟨w6.heap.size, 3, none⟩ = some (.int .i64 ((at_ : Int) + d.length)) := by rw [hw7]; go_simp
          have hB7 : Below wr.heap.size wr w7 := hB6.trans ((show Below w6.heap.size w6 w7 by rw [hw7]; exact belC (Below.refl _ _)).mono hB6.size)
          have HS7 := Lib.hid (HSS.out.below' hB7)
          have HB7 := Lib.hid (HBB.out.trans (hB7.mono HBB.out.size))
          obtain ⟨sb, hsb⟩ : ∃ sb, sb = w6.heap.size := ⟨_, rfl⟩
          have HW7 := Lib.hid hw7
          have HSBK := Lib.hid hsb
          clear hw7 hB7 hB6 HSS HBB hsb
          go_wp2_with fail
          rw [← HW7.out, ← HSBK.out]
          rw [← HSBK.out] at q2 q3
          clear HW7 HSBK
          refine (stHandles_any w7 b S _ HS7.out).mono ?_
          rintro e w1 ⟨⟨hb, S3, rfl, hH⟩, hq⟩
          obtain rfl := hq.symm
          clear hq
          go_wp2_with fail
          have hof := hdlOf_any w7 hb S3 _ hH 0 ((k : Int) + 1)
          rw [show (soS k at_ d.length 4).h.of 0 ((k : Int) + 1) = some 2 from so_of k] at hof
          refine hof.mono ?_
          clear hof hH
          rintro e w1 ⟨rfl, hq⟩
          obtain rfl := hq.symm
          clear hq
          simp only [Option.getD_some, Option.isSome_some]
          go_wp2_with fail
          refine (stTree_any w7 b S _ HS7.out).mono ?_
          rintro e w1 ⟨⟨tb2, S4, rfl, hT⟩, hq⟩
          obtain rfl := hq.symm
          clear hq
          go_wp2_with fail
          refine (trInodes_any w7 tb2 S4 _ hT).mono ?_
          clear hT
          rintro e w1 ⟨⟨ib2, S5, rfl, hI⟩, hq⟩
          obtain rfl := hq.symm
          clear hq
          go_wp2_with fail
          have hpt := inoParts_any w7 ib2 S5 _ hI 2
          rw [show (soS k at_ d.length 4).t.t.at 2 = _ from so_at2 k at_ d.length] at hpt
          refine hpt.mono ?_
          clear hpt hI
          rintro e w8 ⟨pa, pc, rfl, hP, -, -, -, hB8⟩
          obtain ⟨pb, po, rfl, -, hpl, hpx⟩ := hP.elem ptC_len default (i := 0) (by show 0 < 1; decide)
          have p0 : w8.cell? ⟨pb, po, none⟩ = some (.int .i64 at_) := hpx 0 (by decide)
          have p1 : w8.cell? ⟨pb, po + 1, none⟩ = some (.int .i64 d.length) := hpx 1 (by decide)
          have p2 : w8.cell? ⟨pb, po + 2, none⟩ = some (.int .i64 ((k : Int) + 3)) := hpx 2 (by decide)
          have q2 : w8.cell? ⟨sb, 2, none⟩ = some (.int .i64 0) := below_at hB8 q2 (cell_lt q2)
          have q3 : w8.cell? ⟨sb, 3, none⟩ = some (.int .i64 ((at_ : Int) + d.length)) := below_at hB8 q3 (cell_lt q3)
          have HS8 := Lib.hid (HS7.out.below' hB8)
          have HB8 := Lib.hid (HB7.out.trans (hB8.mono HB7.out.size))
          clear hP hpx hB8 HS7 HB7
          simp only [List.length_cons, List.length_nil]
          have htx : ∀ W, Calls Tryz.prog 17 #[.agg #[.int .i64 0, .int .i64 5, .int .i64 9, .string ⟨#[]⟩, .string ⟨#[]⟩, .int .i64 0, .int .i64 ((k : Int) + 1), .int .i64 0, .string ⟨#[]⟩, .int .i64 0, .int .i64 0, .slice none 0 0]] W fun e w' => e = .returned (.string (bs (headL 9 0 5 ++ putB (k + 1) 4))) ∧ Below W.heap.size W w' := fun W => text25_any W (opH 0 5 (k + 1)) _ (fun W => encH_any W 0 5 (k + 1) (by decide) (by decide) (by omega))
          obtain ⟨tx, htxd⟩ : ∃ tx, tx = bs (headL 9 0 5 ++ putB (k + 1) 4) := ⟨_, rfl⟩
          rw [← htxd] at htx
          have HTX := Lib.hid htxd
          have hts : tx.size ≤ 9223372036854775807 := by rw [htxd]; exact so_sz _ (by simp [headL_len, putB_length])
          have h6 : ∀ r, decOp tx = some r → r.1.kind = 1 ∨ r.1.kind = 3 ∨ r.1.kind = 5 ∨ r.1.kind = 8 ∨ r.1.kind = 9 ∨ r.1.kind = 10 := fun r h => by
            rw [htxd, dec_opH 0 5 (k + 1) (by decide) (by decide) (by omega)] at h
            cases h
            exact Or.inr (Or.inr (Or.inr (Or.inr (Or.inl rfl))))
          clear htxd
          go_wp2_with fail
          refine (htx _).mono ?_
          clear htx p0 p1 p2 q2 q3
          rintro e w9 ⟨rfl, hB9⟩
          have hap := apStep w w9 b S (so4 k at_ d.length) (HS8.out.below' hB9) HOK.out.2.2.2 HSB.out (HB8.out.trans (hB9.mono HB8.out.size)) HF.out hw ((k : Int) + 4) 1 tx hts h6
          rw [HTX.out, so_a5 k hk20, ← HTX.out] at hap
          clear hB9 h6 hts HS8 HB8
          go_wp2_with fail
          refine hap.mono ?_
          clear hap
          rintro e w10 ⟨rfl, ⟨S6, hS6, -, -⟩, hB10, -⟩
          simp only at hS6 ⊢
          obtain ⟨w11, hw11⟩ : ∃ w11, w11 = w10.alloc (.cells #[.int .i64 0, .int .i64 0] 28) := ⟨_, rfl⟩
          obtain ⟨rb, hrb⟩ : ∃ rb, rb = w10.heap.size := ⟨_, rfl⟩
          have r0 : w11.cell? ⟨rb, 0, none⟩ = some (.int .i64 0) := by rw [hw11, hrb]; go_simp
          have hB11 : Below w10.heap.size w10 w11 := by rw [hw11]; exact belC (Below.refl _ _)
          have HS11 := Lib.hid (hS6.below' hB11)
          have HB11 := Lib.hid (hB10.trans (hB11.mono hB10.size))
          have HW11 := Lib.hid hw11
          have HRB := Lib.hid hrb
          clear hw11 hB11 hB10 hS6 hrb
          go_wp2_with fail
          rw [← HW11.out, ← HRB.out]
          clear HW11 HRB
          refine (stTree_any w11 b S6 _ HS11.out).mono ?_
          rintro e w1 ⟨⟨tb3, S7, rfl, hT⟩, hq⟩
          obtain rfl := hq.symm
          clear hq
          go_wp2_with fail
          refine (trInodes_any w11 tb3 S7 _ hT).mono ?_
          clear hT
          rintro e w1 ⟨⟨ib3, S8, rfl, hI⟩, hq⟩
          obtain rfl := hq.symm
          clear hq
          go_wp2_with fail
          have hst := inoStat_any w11 ib3 S8 _ hI 2
          rw [show (so5 k).t.t.has 2 = false from so_gone] at hst
          simp only [statV] at hst
          obtain ⟨⟨x0, x1, x2, x3, x4, x5⟩, hx⟩ : ∃ x, x = (so5 k).t.t.at 2 := ⟨_, rfl⟩
          rw [← hx] at hst
          refine hst.mono ?_
          clear hst hI hx
          rintro e w12 ⟨rfl, hB12⟩
          simp only
          obtain ⟨w13, hw13⟩ : ∃ w13, w13 = w12.alloc (.cells #[.int .i64 x0, .int .i64 x1, .int .i64 x2, .int .i64 x4] 51) := ⟨_, rfl⟩
          have hB13 : Below w11.heap.size w11 w13 := hB12.trans ((show Below w12.heap.size w12 w13 by rw [hw13]; exact belC (Below.refl _ _)).mono hB12.size)
          have HS13 := Lib.hid (HS11.out.below' hB13)
          have HB13 := Lib.hid (HB11.out.trans (hB13.mono HB11.out.size))
          have r0 : w12.cell? ⟨rb, 0, none⟩ = some (.int .i64 0) := below_at hB12 r0 (cell_lt r0)
          have hrl := cell_lt r0
          have HW13 := Lib.hid hw13
          clear hw13 hB13 hB12 HS11 HB11
          go_wp2_with fail
          rw [← HW13.out]
          clear HW13
          refine (stHandles_any w13 b S6 _ HS13.out).mono ?_
          rintro e w1 ⟨⟨hb2, S9, rfl, hH⟩, hq⟩
          obtain rfl := hq.symm
          clear hq
          go_wp2_with fail
          refine (hdlAll_any w13 hb2 S9 _ hH (by show ([] : List Hd).length ≤ 100000; decide)).mono ?_
          clear hH
          rintro e w14 ⟨la, lc, ll, rfl, hso, -, -, hB14⟩
          obtain rfl : ll = [] := List.Perm.eq_nil (l := ll) hso.1
          simp only [List.length_nil]
          have HBW := Lib.hid (HB13.out.trans (hB14.mono HB13.out.size))
          clear hB14 hso
          go_wp2_with fail
          refine (wakes25_any _ (HF.out.below HBW.out hw) (Nat.lt_of_lt_of_le hw HBW.out.size)).mono ?_
          rintro e wz ⟨rfl, hBz⟩
          go_wp2_with fail
          go_ret
          exact ⟨rfl, HBW.out.trans (hBz.mono HBW.out.size)⟩
end Go.Proofs.YtpjkimdmbgkpcaaGreatDoor
