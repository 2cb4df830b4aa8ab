/- the document's text of any record: there is one -/
import Derived.Test.YtpiogibkleaaaaaGreatDoorR8c
import Derived.Test.YtpiogibkleaaaaaGreatDoorR9
namespace Go.Proofs.YtpiogibkleaaaaaGreatDoor
open Go.RowKit Esch

set_option linter.unusedSimpArgs false
/-- a text comes, whatever the record is -/
def EncAny (w : World) (e : Ending) (w' : World) : Prop := ∃ (l : List UInt8) (ec : Int), e = .returned (.tuple #[.string (bs l), .int .i64 ec]) ∧ Below w.heap.size w w'
set_option maxRecDepth 100000 in
set_option maxHeartbeats 8000000 in
theorem encG1 (w : World) (c s : Nat) (p q : Nm) (xz xh xo : Int) (xt : ByteArray) (xi xn : Int) (mp : Option Addr) (ml mc : Nat)  (hc : c ≤ 7) (hs : 1 ≤ s ∧ s ≤ 2147483647) (hpl : p.length ≤ 2000) (hgd : ∀ W, Below w.heap.size w W → Calls Tryz.prog 95 #[.agg #[.int .i64 c, .int .i64 s, .int .i64 1, .string (bs p), .string (bs q), .int .i64 xz, .int .i64 xh, .int .i64 xo, .string xt, .int .i64 xi, .int .i64 xn, .slice mp ml mc]] W (BoolB W true)) :
    Calls Tryz.prog 54 #[.agg #[.int .i64 c, .int .i64 s, .int .i64 1, .string (bs p), .string (bs q), .int .i64 xz, .int .i64 xh, .int .i64 xo, .string xt, .int .i64 xi, .int .i64 xn, .slice mp ml mc]] w (EncAny w) := by
  obtain ⟨W1, hW1⟩ : ∃ W1, W1 = w.alloc (.cells #[.int .i64 c, .int .i64 s, .int .i64 1, .string (bs p), .string (bs q), .int .i64 xz, .int .i64 xh, .int .i64 xo, .string xt, .int .i64 xi, .int .i64 xn, .slice mp ml mc] 41) := ⟨_, rfl⟩
  have hB1 : Below w.heap.size w W1 := by rw [hW1]; exact belC (Below.refl _ _)
  have c0 : W1.cell? ⟨w.heap.size, 0, none⟩ = some (.int .i64 c) := by rw [hW1]; go_simp
  have c1 : W1.cell? ⟨w.heap.size, 1, none⟩ = some (.int .i64 s) := by rw [hW1]; go_simp
  have c2 : W1.cell? ⟨w.heap.size, 2, none⟩ = some (.int .i64 1) := by rw [hW1]; go_simp
  have c3 : W1.cell? ⟨w.heap.size, 3, none⟩ = some (.string (bs p)) := by rw [hW1]; go_simp
  have c4 : W1.cell? ⟨w.heap.size, 4, none⟩ = some (.string (bs q)) := by rw [hW1]; go_simp
  have c5 : W1.cell? ⟨w.heap.size, 5, none⟩ = some (.int .i64 xz) := by rw [hW1]; go_simp
  have c6 : W1.cell? ⟨w.heap.size, 6, none⟩ = some (.int .i64 xh) := by rw [hW1]; go_simp
  have c7 : W1.cell? ⟨w.heap.size, 7, none⟩ = some (.int .i64 xo) := by rw [hW1]; go_simp
  have c8 : W1.cell? ⟨w.heap.size, 8, none⟩ = some (.string xt) := by rw [hW1]; go_simp
  have c9 : W1.cell? ⟨w.heap.size, 9, none⟩ = some (.int .i64 xi) := by rw [hW1]; go_simp
  have c10 : W1.cell? ⟨w.heap.size, 10, none⟩ = some (.int .i64 xn) := by rw [hW1]; go_simp
  have c11 : W1.cell? ⟨w.heap.size, 11, none⟩ = some (.slice mp ml mc) := by rw [hW1]; go_simp
  have hol := cell_lt c0
  have HW1 := Lib.hid hW1
  have HB1 := Lib.hid hB1
  have HL1 : Hid (w.heap.size < W1.heap.size) := Lib.hid hol
  clear hW1 hB1
  go_enter Tryz.func54, Tryz.ntmps54
  go_wp2_with fail
  rw [← HW1.out]
  refine (hgd _ HB1.out).mono ?_
  rintro e w2 ⟨rfl, hB2⟩
  have c0 := below_at hB2 c0 hol
  have c1 := below_at hB2 c1 hol
  have c2 := below_at hB2 c2 hol
  have c3 := below_at hB2 c3 hol
  have c4 := below_at hB2 c4 hol
  have c5 := below_at hB2 c5 hol
  have c6 := below_at hB2 c6 hol
  have c7 := below_at hB2 c7 hol
  have c8 := below_at hB2 c8 hol
  have c9 := below_at hB2 c9 hol
  have c10 := below_at hB2 c10 hol
  have c11 := below_at hB2 c11 hol
  have hol := cell_lt c0
  have HB2 := Lib.hid (HB1.out.trans (hB2.mono HB1.out.size))
  have HL2 : Hid (W1.heap.size ≤ w2.heap.size) := Lib.hid hB2.size
  clear hB2
  go_wp2_with fail
  refine (rpNew_any w2).mono ?_
  rintro e w3 ⟨pb, rfl, hP3, hB3⟩
  have hB3' := hB3
  have c0 := below_at hB3 c0 hol
  have c1 := below_at hB3 c1 hol
  have c2 := below_at hB3 c2 hol
  have c3 := below_at hB3 c3 hol
  have c4 := below_at hB3 c4 hol
  have c5 := below_at hB3 c5 hol
  have c6 := below_at hB3 c6 hol
  have c7 := below_at hB3 c7 hol
  have c8 := below_at hB3 c8 hol
  have c9 := below_at hB3 c9 hol
  have c10 := below_at hB3 c10 hol
  have c11 := below_at hB3 c11 hol
  have hol := Nat.lt_of_lt_of_le hol hB3.size
  have HB3 := Lib.hid (HB2.out.trans (hB3.mono HB2.out.size))
  have hz3 := hB3.size
  clear hB3 hB3'
  clear hgd
  go_wp2_with fail
  have hoW : w.heap.size < w2.heap.size := Nat.lt_of_lt_of_le HL1.out HL2.out
  refine (rpNum1 w3 w2.heap.size pb [] 1 (by decide) hP3 (by simp) hz3).mono ?_
  rintro e w4 ⟨rfl, hP4, hB4⟩
  have c0 := below_at hB4 c0 hoW
  have c1 := below_at hB4 c1 hoW
  have c2 := below_at hB4 c2 hoW
  have c3 := below_at hB4 c3 hoW
  have c4 := below_at hB4 c4 hoW
  have c5 := below_at hB4 c5 hoW
  have c6 := below_at hB4 c6 hoW
  have c7 := below_at hB4 c7 hoW
  have c8 := below_at hB4 c8 hoW
  have c9 := below_at hB4 c9 hoW
  have c10 := below_at hB4 c10 hoW
  have c11 := below_at hB4 c11 hoW
  have HB4 := Lib.hid (HB3.out.trans (hB4.mono HB2.out.size))
  have hz4 : w2.heap.size ≤ w4.heap.size := Nat.le_trans hz3 hB4.size
  clear hB4 hP3
  go_wp2_with fail
  refine (rpNum1 w4 w2.heap.size pb ([] ++ putB 1 1) c (by omega) hP4 (by simp [putB_length]) hz4).mono ?_
  rintro e w5 ⟨rfl, hP5, hB5⟩
  have c0 := below_at hB5 c0 hoW
  have c1 := below_at hB5 c1 hoW
  have c2 := below_at hB5 c2 hoW
  have c3 := below_at hB5 c3 hoW
  have c4 := below_at hB5 c4 hoW
  have c5 := below_at hB5 c5 hoW
  have c6 := below_at hB5 c6 hoW
  have c7 := below_at hB5 c7 hoW
  have c8 := below_at hB5 c8 hoW
  have c9 := below_at hB5 c9 hoW
  have c10 := below_at hB5 c10 hoW
  have c11 := below_at hB5 c11 hoW
  have HB5 := Lib.hid (HB4.out.trans (hB5.mono HB2.out.size))
  have hz5 : w2.heap.size ≤ w5.heap.size := Nat.le_trans hz4 hB5.size
  clear hB5 hP4
  go_wp2_with fail
  refine (rpNum4 w5 w2.heap.size pb ([] ++ putB 1 1 ++ putB c 1) s (by omega) hP5 (by simp [putB_length]) hz5).mono ?_
  rintro e w6 ⟨rfl, hP6, hB6⟩
  have c0 := below_at hB6 c0 hoW
  have c1 := below_at hB6 c1 hoW
  have c2 := below_at hB6 c2 hoW
  have c3 := below_at hB6 c3 hoW
  have c4 := below_at hB6 c4 hoW
  have c5 := below_at hB6 c5 hoW
  have c6 := below_at hB6 c6 hoW
  have c7 := below_at hB6 c7 hoW
  have c8 := below_at hB6 c8 hoW
  have c9 := below_at hB6 c9 hoW
  have c10 := below_at hB6 c10 hoW
  have c11 := below_at hB6 c11 hoW
  have HB6 := Lib.hid (HB5.out.trans (hB6.mono HB2.out.size))
  have hz6 : w2.heap.size ≤ w6.heap.size := Nat.le_trans hz5 hB6.size
  clear hB6 hP5
  go_wp2_with fail
  refine (rpText_any w6 w2.heap.size pb ([] ++ putB 1 1 ++ putB c 1 ++ putB s 4) p (by omega) hP6 (by simp [putB_length]; try omega) hz6).mono ?_
  rintro e w7 ⟨rfl, hP7, hB7⟩
  have c0 := below_at hB7 c0 hoW
  have c1 := below_at hB7 c1 hoW
  have c2 := below_at hB7 c2 hoW
  have c3 := below_at hB7 c3 hoW
  have c4 := below_at hB7 c4 hoW
  have c5 := below_at hB7 c5 hoW
  have c6 := below_at hB7 c6 hoW
  have c7 := below_at hB7 c7 hoW
  have c8 := below_at hB7 c8 hoW
  have c9 := below_at hB7 c9 hoW
  have c10 := below_at hB7 c10 hoW
  have c11 := below_at hB7 c11 hoW
  have HB7 := Lib.hid (HB6.out.trans (hB7.mono HB2.out.size))
  have hz7 : w2.heap.size ≤ w7.heap.size := Nat.le_trans hz6 hB7.size
  clear hB7 hP6
  go_wp2_with fail
  have hdn := rpDone_ok w7 w2.heap.size pb ([] ++ putB 1 1 ++ putB c 1 ++ putB s 4 ++ (putB p.length 2 ++ p)) hP7 (by simp [putB_length]; try omega)
  refine hdn.mono ?_
  rintro e wz ⟨rfl, hBz⟩
  have HBz := Lib.hid (HB7.out.trans (hBz.mono HB7.out.size))
  clear hBz hdn
  go_wp2_with fail
  go_ret2
  exact ⟨([] ++ putB 1 1 ++ putB c 1 ++ putB s 4 ++ (putB p.length 2 ++ p)), 0, rfl, HBz.out⟩
set_option maxRecDepth 100000 in
set_option maxHeartbeats 8000000 in
theorem encG2 (w : World) (c s : Nat) (p q : Nm) (xz xh xo : Int) (xt : ByteArray) (xi xn : Int) (mp : Option Addr) (ml mc : Nat)  (hc : c ≤ 7) (hs : 1 ≤ s ∧ s ≤ 2147483647) (hpl : p.length ≤ 2000) (hgd : ∀ W, Below w.heap.size w W → Calls Tryz.prog 95 #[.agg #[.int .i64 c, .int .i64 s, .int .i64 2, .string (bs p), .string (bs q), .int .i64 xz, .int .i64 xh, .int .i64 xo, .string xt, .int .i64 xi, .int .i64 xn, .slice mp ml mc]] W (BoolB W true)) :
    Calls Tryz.prog 54 #[.agg #[.int .i64 c, .int .i64 s, .int .i64 2, .string (bs p), .string (bs q), .int .i64 xz, .int .i64 xh, .int .i64 xo, .string xt, .int .i64 xi, .int .i64 xn, .slice mp ml mc]] w (EncAny w) := by
  obtain ⟨W1, hW1⟩ : ∃ W1, W1 = w.alloc (.cells #[.int .i64 c, .int .i64 s, .int .i64 2, .string (bs p), .string (bs q), .int .i64 xz, .int .i64 xh, .int .i64 xo, .string xt, .int .i64 xi, .int .i64 xn, .slice mp ml mc] 41) := ⟨_, rfl⟩
  have hB1 : Below w.heap.size w W1 := by rw [hW1]; exact belC (Below.refl _ _)
  have c0 : W1.cell? ⟨w.heap.size, 0, none⟩ = some (.int .i64 c) := by rw [hW1]; go_simp
  have c1 : W1.cell? ⟨w.heap.size, 1, none⟩ = some (.int .i64 s) := by rw [hW1]; go_simp
  have c2 : W1.cell? ⟨w.heap.size, 2, none⟩ = some (.int .i64 2) := by rw [hW1]; go_simp
  have c3 : W1.cell? ⟨w.heap.size, 3, none⟩ = some (.string (bs p)) := by rw [hW1]; go_simp
  have c4 : W1.cell? ⟨w.heap.size, 4, none⟩ = some (.string (bs q)) := by rw [hW1]; go_simp
  have c5 : W1.cell? ⟨w.heap.size, 5, none⟩ = some (.int .i64 xz) := by rw [hW1]; go_simp
  have c6 : W1.cell? ⟨w.heap.size, 6, none⟩ = some (.int .i64 xh) := by rw [hW1]; go_simp
  have c7 : W1.cell? ⟨w.heap.size, 7, none⟩ = some (.int .i64 xo) := by rw [hW1]; go_simp
  have c8 : W1.cell? ⟨w.heap.size, 8, none⟩ = some (.string xt) := by rw [hW1]; go_simp
  have c9 : W1.cell? ⟨w.heap.size, 9, none⟩ = some (.int .i64 xi) := by rw [hW1]; go_simp
  have c10 : W1.cell? ⟨w.heap.size, 10, none⟩ = some (.int .i64 xn) := by rw [hW1]; go_simp
  have c11 : W1.cell? ⟨w.heap.size, 11, none⟩ = some (.slice mp ml mc) := by rw [hW1]; go_simp
  have hol := cell_lt c0
  have HW1 := Lib.hid hW1
  have HB1 := Lib.hid hB1
  have HL1 : Hid (w.heap.size < W1.heap.size) := Lib.hid hol
  clear hW1 hB1
  go_enter Tryz.func54, Tryz.ntmps54
  go_wp2_with fail
  rw [← HW1.out]
  refine (hgd _ HB1.out).mono ?_
  rintro e w2 ⟨rfl, hB2⟩
  have c0 := below_at hB2 c0 hol
  have c1 := below_at hB2 c1 hol
  have c2 := below_at hB2 c2 hol
  have c3 := below_at hB2 c3 hol
  have c4 := below_at hB2 c4 hol
  have c5 := below_at hB2 c5 hol
  have c6 := below_at hB2 c6 hol
  have c7 := below_at hB2 c7 hol
  have c8 := below_at hB2 c8 hol
  have c9 := below_at hB2 c9 hol
  have c10 := below_at hB2 c10 hol
  have c11 := below_at hB2 c11 hol
  have hol := cell_lt c0
  have HB2 := Lib.hid (HB1.out.trans (hB2.mono HB1.out.size))
  have HL2 : Hid (W1.heap.size ≤ w2.heap.size) := Lib.hid hB2.size
  clear hB2
  go_wp2_with fail
  refine (rpNew_any w2).mono ?_
  rintro e w3 ⟨pb, rfl, hP3, hB3⟩
  have hB3' := hB3
  have c0 := below_at hB3 c0 hol
  have c1 := below_at hB3 c1 hol
  have c2 := below_at hB3 c2 hol
  have c3 := below_at hB3 c3 hol
  have c4 := below_at hB3 c4 hol
  have c5 := below_at hB3 c5 hol
  have c6 := below_at hB3 c6 hol
  have c7 := below_at hB3 c7 hol
  have c8 := below_at hB3 c8 hol
  have c9 := below_at hB3 c9 hol
  have c10 := below_at hB3 c10 hol
  have c11 := below_at hB3 c11 hol
  have hol := Nat.lt_of_lt_of_le hol hB3.size
  have HB3 := Lib.hid (HB2.out.trans (hB3.mono HB2.out.size))
  have hz3 := hB3.size
  clear hB3 hB3'
  clear hgd
  go_wp2_with fail
  have hoW : w.heap.size < w2.heap.size := Nat.lt_of_lt_of_le HL1.out HL2.out
  refine (rpNum1 w3 w2.heap.size pb [] 2 (by decide) hP3 (by simp) hz3).mono ?_
  rintro e w4 ⟨rfl, hP4, hB4⟩
  have c0 := below_at hB4 c0 hoW
  have c1 := below_at hB4 c1 hoW
  have c2 := below_at hB4 c2 hoW
  have c3 := below_at hB4 c3 hoW
  have c4 := below_at hB4 c4 hoW
  have c5 := below_at hB4 c5 hoW
  have c6 := below_at hB4 c6 hoW
  have c7 := below_at hB4 c7 hoW
  have c8 := below_at hB4 c8 hoW
  have c9 := below_at hB4 c9 hoW
  have c10 := below_at hB4 c10 hoW
  have c11 := below_at hB4 c11 hoW
  have HB4 := Lib.hid (HB3.out.trans (hB4.mono HB2.out.size))
  have hz4 : w2.heap.size ≤ w4.heap.size := Nat.le_trans hz3 hB4.size
  clear hB4 hP3
  go_wp2_with fail
  refine (rpNum1 w4 w2.heap.size pb ([] ++ putB 2 1) c (by omega) hP4 (by simp [putB_length]) hz4).mono ?_
  rintro e w5 ⟨rfl, hP5, hB5⟩
  have c0 := below_at hB5 c0 hoW
  have c1 := below_at hB5 c1 hoW
  have c2 := below_at hB5 c2 hoW
  have c3 := below_at hB5 c3 hoW
  have c4 := below_at hB5 c4 hoW
  have c5 := below_at hB5 c5 hoW
  have c6 := below_at hB5 c6 hoW
  have c7 := below_at hB5 c7 hoW
  have c8 := below_at hB5 c8 hoW
  have c9 := below_at hB5 c9 hoW
  have c10 := below_at hB5 c10 hoW
  have c11 := below_at hB5 c11 hoW
  have HB5 := Lib.hid (HB4.out.trans (hB5.mono HB2.out.size))
  have hz5 : w2.heap.size ≤ w5.heap.size := Nat.le_trans hz4 hB5.size
  clear hB5 hP4
  go_wp2_with fail
  refine (rpNum4 w5 w2.heap.size pb ([] ++ putB 2 1 ++ putB c 1) s (by omega) hP5 (by simp [putB_length]) hz5).mono ?_
  rintro e w6 ⟨rfl, hP6, hB6⟩
  have c0 := below_at hB6 c0 hoW
  have c1 := below_at hB6 c1 hoW
  have c2 := below_at hB6 c2 hoW
  have c3 := below_at hB6 c3 hoW
  have c4 := below_at hB6 c4 hoW
  have c5 := below_at hB6 c5 hoW
  have c6 := below_at hB6 c6 hoW
  have c7 := below_at hB6 c7 hoW
  have c8 := below_at hB6 c8 hoW
  have c9 := below_at hB6 c9 hoW
  have c10 := below_at hB6 c10 hoW
  have c11 := below_at hB6 c11 hoW
  have HB6 := Lib.hid (HB5.out.trans (hB6.mono HB2.out.size))
  have hz6 : w2.heap.size ≤ w6.heap.size := Nat.le_trans hz5 hB6.size
  clear hB6 hP5
  go_wp2_with fail
  refine (rpText_any w6 w2.heap.size pb ([] ++ putB 2 1 ++ putB c 1 ++ putB s 4) p (by omega) hP6 (by simp [putB_length]; try omega) hz6).mono ?_
  rintro e w7 ⟨rfl, hP7, hB7⟩
  have c0 := below_at hB7 c0 hoW
  have c1 := below_at hB7 c1 hoW
  have c2 := below_at hB7 c2 hoW
  have c3 := below_at hB7 c3 hoW
  have c4 := below_at hB7 c4 hoW
  have c5 := below_at hB7 c5 hoW
  have c6 := below_at hB7 c6 hoW
  have c7 := below_at hB7 c7 hoW
  have c8 := below_at hB7 c8 hoW
  have c9 := below_at hB7 c9 hoW
  have c10 := below_at hB7 c10 hoW
  have c11 := below_at hB7 c11 hoW
  have HB7 := Lib.hid (HB6.out.trans (hB7.mono HB2.out.size))
  have hz7 : w2.heap.size ≤ w7.heap.size := Nat.le_trans hz6 hB7.size
  clear hB7 hP6
  go_wp2_with fail
  have hdn := rpDone_ok w7 w2.heap.size pb ([] ++ putB 2 1 ++ putB c 1 ++ putB s 4 ++ (putB p.length 2 ++ p)) hP7 (by simp [putB_length]; try omega)
  refine hdn.mono ?_
  rintro e wz ⟨rfl, hBz⟩
  have HBz := Lib.hid (HB7.out.trans (hBz.mono HB7.out.size))
  clear hBz hdn
  go_wp2_with fail
  go_ret2
  exact ⟨([] ++ putB 2 1 ++ putB c 1 ++ putB s 4 ++ (putB p.length 2 ++ p)), 0, rfl, HBz.out⟩
set_option maxRecDepth 100000 in
set_option maxHeartbeats 8000000 in
theorem encG3 (w : World) (c s : Nat) (p q : Nm) (xz xh xo : Int) (xt : ByteArray) (xi xn : Int) (mp : Option Addr) (ml mc : Nat)  (hc : c ≤ 7) (hs : 1 ≤ s ∧ s ≤ 2147483647) (hpl : p.length ≤ 2000) (hgd : ∀ W, Below w.heap.size w W → Calls Tryz.prog 95 #[.agg #[.int .i64 c, .int .i64 s, .int .i64 3, .string (bs p), .string (bs q), .int .i64 xz, .int .i64 xh, .int .i64 xo, .string xt, .int .i64 xi, .int .i64 xn, .slice mp ml mc]] W (BoolB W true)) :
    Calls Tryz.prog 54 #[.agg #[.int .i64 c, .int .i64 s, .int .i64 3, .string (bs p), .string (bs q), .int .i64 xz, .int .i64 xh, .int .i64 xo, .string xt, .int .i64 xi, .int .i64 xn, .slice mp ml mc]] w (EncAny w) := by
  obtain ⟨W1, hW1⟩ : ∃ W1, W1 = w.alloc (.cells #[.int .i64 c, .int .i64 s, .int .i64 3, .string (bs p), .string (bs q), .int .i64 xz, .int .i64 xh, .int .i64 xo, .string xt, .int .i64 xi, .int .i64 xn, .slice mp ml mc] 41) := ⟨_, rfl⟩
  have hB1 : Below w.heap.size w W1 := by rw [hW1]; exact belC (Below.refl _ _)
  have c0 : W1.cell? ⟨w.heap.size, 0, none⟩ = some (.int .i64 c) := by rw [hW1]; go_simp
  have c1 : W1.cell? ⟨w.heap.size, 1, none⟩ = some (.int .i64 s) := by rw [hW1]; go_simp
  have c2 : W1.cell? ⟨w.heap.size, 2, none⟩ = some (.int .i64 3) := by rw [hW1]; go_simp
  have c3 : W1.cell? ⟨w.heap.size, 3, none⟩ = some (.string (bs p)) := by rw [hW1]; go_simp
  have c4 : W1.cell? ⟨w.heap.size, 4, none⟩ = some (.string (bs q)) := by rw [hW1]; go_simp
  have c5 : W1.cell? ⟨w.heap.size, 5, none⟩ = some (.int .i64 xz) := by rw [hW1]; go_simp
  have c6 : W1.cell? ⟨w.heap.size, 6, none⟩ = some (.int .i64 xh) := by rw [hW1]; go_simp
  have c7 : W1.cell? ⟨w.heap.size, 7, none⟩ = some (.int .i64 xo) := by rw [hW1]; go_simp
  have c8 : W1.cell? ⟨w.heap.size, 8, none⟩ = some (.string xt) := by rw [hW1]; go_simp
  have c9 : W1.cell? ⟨w.heap.size, 9, none⟩ = some (.int .i64 xi) := by rw [hW1]; go_simp
  have c10 : W1.cell? ⟨w.heap.size, 10, none⟩ = some (.int .i64 xn) := by rw [hW1]; go_simp
  have c11 : W1.cell? ⟨w.heap.size, 11, none⟩ = some (.slice mp ml mc) := by rw [hW1]; go_simp
  have hol := cell_lt c0
  have HW1 := Lib.hid hW1
  have HB1 := Lib.hid hB1
  have HL1 : Hid (w.heap.size < W1.heap.size) := Lib.hid hol
  clear hW1 hB1
  go_enter Tryz.func54, Tryz.ntmps54
  go_wp2_with fail
  rw [← HW1.out]
  refine (hgd _ HB1.out).mono ?_
  rintro e w2 ⟨rfl, hB2⟩
  have c0 := below_at hB2 c0 hol
  have c1 := below_at hB2 c1 hol
  have c2 := below_at hB2 c2 hol
  have c3 := below_at hB2 c3 hol
  have c4 := below_at hB2 c4 hol
  have c5 := below_at hB2 c5 hol
  have c6 := below_at hB2 c6 hol
  have c7 := below_at hB2 c7 hol
  have c8 := below_at hB2 c8 hol
  have c9 := below_at hB2 c9 hol
  have c10 := below_at hB2 c10 hol
  have c11 := below_at hB2 c11 hol
  have hol := cell_lt c0
  have HB2 := Lib.hid (HB1.out.trans (hB2.mono HB1.out.size))
  have HL2 : Hid (W1.heap.size ≤ w2.heap.size) := Lib.hid hB2.size
  clear hB2
  go_wp2_with fail
  refine (rpNew_any w2).mono ?_
  rintro e w3 ⟨pb, rfl, hP3, hB3⟩
  have hB3' := hB3
  have c0 := below_at hB3 c0 hol
  have c1 := below_at hB3 c1 hol
  have c2 := below_at hB3 c2 hol
  have c3 := below_at hB3 c3 hol
  have c4 := below_at hB3 c4 hol
  have c5 := below_at hB3 c5 hol
  have c6 := below_at hB3 c6 hol
  have c7 := below_at hB3 c7 hol
  have c8 := below_at hB3 c8 hol
  have c9 := below_at hB3 c9 hol
  have c10 := below_at hB3 c10 hol
  have c11 := below_at hB3 c11 hol
  have hol := Nat.lt_of_lt_of_le hol hB3.size
  have HB3 := Lib.hid (HB2.out.trans (hB3.mono HB2.out.size))
  have hz3 := hB3.size
  clear hB3 hB3'
  clear hgd
  go_wp2_with fail
  have hoW : w.heap.size < w2.heap.size := Nat.lt_of_lt_of_le HL1.out HL2.out
  refine (rpNum1 w3 w2.heap.size pb [] 3 (by decide) hP3 (by simp) hz3).mono ?_
  rintro e w4 ⟨rfl, hP4, hB4⟩
  have c0 := below_at hB4 c0 hoW
  have c1 := below_at hB4 c1 hoW
  have c2 := below_at hB4 c2 hoW
  have c3 := below_at hB4 c3 hoW
  have c4 := below_at hB4 c4 hoW
  have c5 := below_at hB4 c5 hoW
  have c6 := below_at hB4 c6 hoW
  have c7 := below_at hB4 c7 hoW
  have c8 := below_at hB4 c8 hoW
  have c9 := below_at hB4 c9 hoW
  have c10 := below_at hB4 c10 hoW
  have c11 := below_at hB4 c11 hoW
  have HB4 := Lib.hid (HB3.out.trans (hB4.mono HB2.out.size))
  have hz4 : w2.heap.size ≤ w4.heap.size := Nat.le_trans hz3 hB4.size
  clear hB4 hP3
  go_wp2_with fail
  refine (rpNum1 w4 w2.heap.size pb ([] ++ putB 3 1) c (by omega) hP4 (by simp [putB_length]) hz4).mono ?_
  rintro e w5 ⟨rfl, hP5, hB5⟩
  have c0 := below_at hB5 c0 hoW
  have c1 := below_at hB5 c1 hoW
  have c2 := below_at hB5 c2 hoW
  have c3 := below_at hB5 c3 hoW
  have c4 := below_at hB5 c4 hoW
  have c5 := below_at hB5 c5 hoW
  have c6 := below_at hB5 c6 hoW
  have c7 := below_at hB5 c7 hoW
  have c8 := below_at hB5 c8 hoW
  have c9 := below_at hB5 c9 hoW
  have c10 := below_at hB5 c10 hoW
  have c11 := below_at hB5 c11 hoW
  have HB5 := Lib.hid (HB4.out.trans (hB5.mono HB2.out.size))
  have hz5 : w2.heap.size ≤ w5.heap.size := Nat.le_trans hz4 hB5.size
  clear hB5 hP4
  go_wp2_with fail
  refine (rpNum4 w5 w2.heap.size pb ([] ++ putB 3 1 ++ putB c 1) s (by omega) hP5 (by simp [putB_length]) hz5).mono ?_
  rintro e w6 ⟨rfl, hP6, hB6⟩
  have c0 := below_at hB6 c0 hoW
  have c1 := below_at hB6 c1 hoW
  have c2 := below_at hB6 c2 hoW
  have c3 := below_at hB6 c3 hoW
  have c4 := below_at hB6 c4 hoW
  have c5 := below_at hB6 c5 hoW
  have c6 := below_at hB6 c6 hoW
  have c7 := below_at hB6 c7 hoW
  have c8 := below_at hB6 c8 hoW
  have c9 := below_at hB6 c9 hoW
  have c10 := below_at hB6 c10 hoW
  have c11 := below_at hB6 c11 hoW
  have HB6 := Lib.hid (HB5.out.trans (hB6.mono HB2.out.size))
  have hz6 : w2.heap.size ≤ w6.heap.size := Nat.le_trans hz5 hB6.size
  clear hB6 hP5
  go_wp2_with fail
  refine (rpText_any w6 w2.heap.size pb ([] ++ putB 3 1 ++ putB c 1 ++ putB s 4) p (by omega) hP6 (by simp [putB_length]; try omega) hz6).mono ?_
  rintro e w7 ⟨rfl, hP7, hB7⟩
  have c0 := below_at hB7 c0 hoW
  have c1 := below_at hB7 c1 hoW
  have c2 := below_at hB7 c2 hoW
  have c3 := below_at hB7 c3 hoW
  have c4 := below_at hB7 c4 hoW
  have c5 := below_at hB7 c5 hoW
  have c6 := below_at hB7 c6 hoW
  have c7 := below_at hB7 c7 hoW
  have c8 := below_at hB7 c8 hoW
  have c9 := below_at hB7 c9 hoW
  have c10 := below_at hB7 c10 hoW
  have c11 := below_at hB7 c11 hoW
  have HB7 := Lib.hid (HB6.out.trans (hB7.mono HB2.out.size))
  have hz7 : w2.heap.size ≤ w7.heap.size := Nat.le_trans hz6 hB7.size
  clear hB7 hP6
  go_wp2_with fail
  have hdn := rpDone_ok w7 w2.heap.size pb ([] ++ putB 3 1 ++ putB c 1 ++ putB s 4 ++ (putB p.length 2 ++ p)) hP7 (by simp [putB_length]; try omega)
  refine hdn.mono ?_
  rintro e wz ⟨rfl, hBz⟩
  have HBz := Lib.hid (HB7.out.trans (hBz.mono HB7.out.size))
  clear hBz hdn
  go_wp2_with fail
  go_ret2
  exact ⟨([] ++ putB 3 1 ++ putB c 1 ++ putB s 4 ++ (putB p.length 2 ++ p)), 0, rfl, HBz.out⟩
set_option maxRecDepth 100000 in
set_option maxHeartbeats 8000000 in
theorem encG5 (w : World) (c s : Nat) (p q : Nm) (xz xh xo : Int) (xt : ByteArray) (xi xn : Int) (mp : Option Addr) (ml mc : Nat)  (hc : c ≤ 7) (hs : 1 ≤ s ∧ s ≤ 2147483647) (hpl : p.length ≤ 2000) (hgd : ∀ W, Below w.heap.size w W → Calls Tryz.prog 95 #[.agg #[.int .i64 c, .int .i64 s, .int .i64 5, .string (bs p), .string (bs q), .int .i64 xz, .int .i64 xh, .int .i64 xo, .string xt, .int .i64 xi, .int .i64 xn, .slice mp ml mc]] W (BoolB W true)) :
    Calls Tryz.prog 54 #[.agg #[.int .i64 c, .int .i64 s, .int .i64 5, .string (bs p), .string (bs q), .int .i64 xz, .int .i64 xh, .int .i64 xo, .string xt, .int .i64 xi, .int .i64 xn, .slice mp ml mc]] w (EncAny w) := by
  obtain ⟨W1, hW1⟩ : ∃ W1, W1 = w.alloc (.cells #[.int .i64 c, .int .i64 s, .int .i64 5, .string (bs p), .string (bs q), .int .i64 xz, .int .i64 xh, .int .i64 xo, .string xt, .int .i64 xi, .int .i64 xn, .slice mp ml mc] 41) := ⟨_, rfl⟩
  have hB1 : Below w.heap.size w W1 := by rw [hW1]; exact belC (Below.refl _ _)
  have c0 : W1.cell? ⟨w.heap.size, 0, none⟩ = some (.int .i64 c) := by rw [hW1]; go_simp
  have c1 : W1.cell? ⟨w.heap.size, 1, none⟩ = some (.int .i64 s) := by rw [hW1]; go_simp
  have c2 : W1.cell? ⟨w.heap.size, 2, none⟩ = some (.int .i64 5) := by rw [hW1]; go_simp
  have c3 : W1.cell? ⟨w.heap.size, 3, none⟩ = some (.string (bs p)) := by rw [hW1]; go_simp
  have c4 : W1.cell? ⟨w.heap.size, 4, none⟩ = some (.string (bs q)) := by rw [hW1]; go_simp
  have c5 : W1.cell? ⟨w.heap.size, 5, none⟩ = some (.int .i64 xz) := by rw [hW1]; go_simp
  have c6 : W1.cell? ⟨w.heap.size, 6, none⟩ = some (.int .i64 xh) := by rw [hW1]; go_simp
  have c7 : W1.cell? ⟨w.heap.size, 7, none⟩ = some (.int .i64 xo) := by rw [hW1]; go_simp
  have c8 : W1.cell? ⟨w.heap.size, 8, none⟩ = some (.string xt) := by rw [hW1]; go_simp
  have c9 : W1.cell? ⟨w.heap.size, 9, none⟩ = some (.int .i64 xi) := by rw [hW1]; go_simp
  have c10 : W1.cell? ⟨w.heap.size, 10, none⟩ = some (.int .i64 xn) := by rw [hW1]; go_simp
  have c11 : W1.cell? ⟨w.heap.size, 11, none⟩ = some (.slice mp ml mc) := by rw [hW1]; go_simp
  have hol := cell_lt c0
  have HW1 := Lib.hid hW1
  have HB1 := Lib.hid hB1
  have HL1 : Hid (w.heap.size < W1.heap.size) := Lib.hid hol
  clear hW1 hB1
  go_enter Tryz.func54, Tryz.ntmps54
  go_wp2_with fail
  rw [← HW1.out]
  refine (hgd _ HB1.out).mono ?_
  rintro e w2 ⟨rfl, hB2⟩
  have c0 := below_at hB2 c0 hol
  have c1 := below_at hB2 c1 hol
  have c2 := below_at hB2 c2 hol
  have c3 := below_at hB2 c3 hol
  have c4 := below_at hB2 c4 hol
  have c5 := below_at hB2 c5 hol
  have c6 := below_at hB2 c6 hol
  have c7 := below_at hB2 c7 hol
  have c8 := below_at hB2 c8 hol
  have c9 := below_at hB2 c9 hol
  have c10 := below_at hB2 c10 hol
  have c11 := below_at hB2 c11 hol
  have hol := cell_lt c0
  have HB2 := Lib.hid (HB1.out.trans (hB2.mono HB1.out.size))
  have HL2 : Hid (W1.heap.size ≤ w2.heap.size) := Lib.hid hB2.size
  clear hB2
  go_wp2_with fail
  refine (rpNew_any w2).mono ?_
  rintro e w3 ⟨pb, rfl, hP3, hB3⟩
  have hB3' := hB3
  have c0 := below_at hB3 c0 hol
  have c1 := below_at hB3 c1 hol
  have c2 := below_at hB3 c2 hol
  have c3 := below_at hB3 c3 hol
  have c4 := below_at hB3 c4 hol
  have c5 := below_at hB3 c5 hol
  have c6 := below_at hB3 c6 hol
  have c7 := below_at hB3 c7 hol
  have c8 := below_at hB3 c8 hol
  have c9 := below_at hB3 c9 hol
  have c10 := below_at hB3 c10 hol
  have c11 := below_at hB3 c11 hol
  have hol := Nat.lt_of_lt_of_le hol hB3.size
  have HB3 := Lib.hid (HB2.out.trans (hB3.mono HB2.out.size))
  have hz3 := hB3.size
  clear hB3 hB3'
  clear hgd
  go_wp2_with fail
  have hoW : w.heap.size < w2.heap.size := Nat.lt_of_lt_of_le HL1.out HL2.out
  refine (rpNum1 w3 w2.heap.size pb [] 5 (by decide) hP3 (by simp) hz3).mono ?_
  rintro e w4 ⟨rfl, hP4, hB4⟩
  have c0 := below_at hB4 c0 hoW
  have c1 := below_at hB4 c1 hoW
  have c2 := below_at hB4 c2 hoW
  have c3 := below_at hB4 c3 hoW
  have c4 := below_at hB4 c4 hoW
  have c5 := below_at hB4 c5 hoW
  have c6 := below_at hB4 c6 hoW
  have c7 := below_at hB4 c7 hoW
  have c8 := below_at hB4 c8 hoW
  have c9 := below_at hB4 c9 hoW
  have c10 := below_at hB4 c10 hoW
  have c11 := below_at hB4 c11 hoW
  have HB4 := Lib.hid (HB3.out.trans (hB4.mono HB2.out.size))
  have hz4 : w2.heap.size ≤ w4.heap.size := Nat.le_trans hz3 hB4.size
  clear hB4 hP3
  go_wp2_with fail
  refine (rpNum1 w4 w2.heap.size pb ([] ++ putB 5 1) c (by omega) hP4 (by simp [putB_length]) hz4).mono ?_
  rintro e w5 ⟨rfl, hP5, hB5⟩
  have c0 := below_at hB5 c0 hoW
  have c1 := below_at hB5 c1 hoW
  have c2 := below_at hB5 c2 hoW
  have c3 := below_at hB5 c3 hoW
  have c4 := below_at hB5 c4 hoW
  have c5 := below_at hB5 c5 hoW
  have c6 := below_at hB5 c6 hoW
  have c7 := below_at hB5 c7 hoW
  have c8 := below_at hB5 c8 hoW
  have c9 := below_at hB5 c9 hoW
  have c10 := below_at hB5 c10 hoW
  have c11 := below_at hB5 c11 hoW
  have HB5 := Lib.hid (HB4.out.trans (hB5.mono HB2.out.size))
  have hz5 : w2.heap.size ≤ w5.heap.size := Nat.le_trans hz4 hB5.size
  clear hB5 hP4
  go_wp2_with fail
  refine (rpNum4 w5 w2.heap.size pb ([] ++ putB 5 1 ++ putB c 1) s (by omega) hP5 (by simp [putB_length]) hz5).mono ?_
  rintro e w6 ⟨rfl, hP6, hB6⟩
  have c0 := below_at hB6 c0 hoW
  have c1 := below_at hB6 c1 hoW
  have c2 := below_at hB6 c2 hoW
  have c3 := below_at hB6 c3 hoW
  have c4 := below_at hB6 c4 hoW
  have c5 := below_at hB6 c5 hoW
  have c6 := below_at hB6 c6 hoW
  have c7 := below_at hB6 c7 hoW
  have c8 := below_at hB6 c8 hoW
  have c9 := below_at hB6 c9 hoW
  have c10 := below_at hB6 c10 hoW
  have c11 := below_at hB6 c11 hoW
  have HB6 := Lib.hid (HB5.out.trans (hB6.mono HB2.out.size))
  have hz6 : w2.heap.size ≤ w6.heap.size := Nat.le_trans hz5 hB6.size
  clear hB6 hP5
  go_wp2_with fail
  refine (rpText_any w6 w2.heap.size pb ([] ++ putB 5 1 ++ putB c 1 ++ putB s 4) p (by omega) hP6 (by simp [putB_length]; try omega) hz6).mono ?_
  rintro e w7 ⟨rfl, hP7, hB7⟩
  have c0 := below_at hB7 c0 hoW
  have c1 := below_at hB7 c1 hoW
  have c2 := below_at hB7 c2 hoW
  have c3 := below_at hB7 c3 hoW
  have c4 := below_at hB7 c4 hoW
  have c5 := below_at hB7 c5 hoW
  have c6 := below_at hB7 c6 hoW
  have c7 := below_at hB7 c7 hoW
  have c8 := below_at hB7 c8 hoW
  have c9 := below_at hB7 c9 hoW
  have c10 := below_at hB7 c10 hoW
  have c11 := below_at hB7 c11 hoW
  have HB7 := Lib.hid (HB6.out.trans (hB7.mono HB2.out.size))
  have hz7 : w2.heap.size ≤ w7.heap.size := Nat.le_trans hz6 hB7.size
  clear hB7 hP6
  go_wp2_with fail
  have hdn := rpDone_ok w7 w2.heap.size pb ([] ++ putB 5 1 ++ putB c 1 ++ putB s 4 ++ (putB p.length 2 ++ p)) hP7 (by simp [putB_length]; try omega)
  refine hdn.mono ?_
  rintro e wz ⟨rfl, hBz⟩
  have HBz := Lib.hid (HB7.out.trans (hBz.mono HB7.out.size))
  clear hBz hdn
  go_wp2_with fail
  go_ret2
  exact ⟨([] ++ putB 5 1 ++ putB c 1 ++ putB s 4 ++ (putB p.length 2 ++ p)), 0, rfl, HBz.out⟩
set_option maxRecDepth 100000 in
set_option maxHeartbeats 8000000 in
theorem encG8 (w : World) (c s : Nat) (p q : Nm) (xz xh xo : Int) (xt : ByteArray) (xi xn : Int) (mp : Option Addr) (ml mc : Nat)  (hc : c ≤ 7) (hs : 1 ≤ s ∧ s ≤ 2147483647) (hpl : p.length ≤ 2000) (hgd : ∀ W, Below w.heap.size w W → Calls Tryz.prog 95 #[.agg #[.int .i64 c, .int .i64 s, .int .i64 8, .string (bs p), .string (bs q), .int .i64 xz, .int .i64 xh, .int .i64 xo, .string xt, .int .i64 xi, .int .i64 xn, .slice mp ml mc]] W (BoolB W true)) :
    Calls Tryz.prog 54 #[.agg #[.int .i64 c, .int .i64 s, .int .i64 8, .string (bs p), .string (bs q), .int .i64 xz, .int .i64 xh, .int .i64 xo, .string xt, .int .i64 xi, .int .i64 xn, .slice mp ml mc]] w (EncAny w) := by
  obtain ⟨W1, hW1⟩ : ∃ W1, W1 = w.alloc (.cells #[.int .i64 c, .int .i64 s, .int .i64 8, .string (bs p), .string (bs q), .int .i64 xz, .int .i64 xh, .int .i64 xo, .string xt, .int .i64 xi, .int .i64 xn, .slice mp ml mc] 41) := ⟨_, rfl⟩
  have hB1 : Below w.heap.size w W1 := by rw [hW1]; exact belC (Below.refl _ _)
  have c0 : W1.cell? ⟨w.heap.size, 0, none⟩ = some (.int .i64 c) := by rw [hW1]; go_simp
  have c1 : W1.cell? ⟨w.heap.size, 1, none⟩ = some (.int .i64 s) := by rw [hW1]; go_simp
  have c2 : W1.cell? ⟨w.heap.size, 2, none⟩ = some (.int .i64 8) := by rw [hW1]; go_simp
  have c3 : W1.cell? ⟨w.heap.size, 3, none⟩ = some (.string (bs p)) := by rw [hW1]; go_simp
  have c4 : W1.cell? ⟨w.heap.size, 4, none⟩ = some (.string (bs q)) := by rw [hW1]; go_simp
  have c5 : W1.cell? ⟨w.heap.size, 5, none⟩ = some (.int .i64 xz) := by rw [hW1]; go_simp
  have c6 : W1.cell? ⟨w.heap.size, 6, none⟩ = some (.int .i64 xh) := by rw [hW1]; go_simp
  have c7 : W1.cell? ⟨w.heap.size, 7, none⟩ = some (.int .i64 xo) := by rw [hW1]; go_simp
  have c8 : W1.cell? ⟨w.heap.size, 8, none⟩ = some (.string xt) := by rw [hW1]; go_simp
  have c9 : W1.cell? ⟨w.heap.size, 9, none⟩ = some (.int .i64 xi) := by rw [hW1]; go_simp
  have c10 : W1.cell? ⟨w.heap.size, 10, none⟩ = some (.int .i64 xn) := by rw [hW1]; go_simp
  have c11 : W1.cell? ⟨w.heap.size, 11, none⟩ = some (.slice mp ml mc) := by rw [hW1]; go_simp
  have hol := cell_lt c0
  have HW1 := Lib.hid hW1
  have HB1 := Lib.hid hB1
  have HL1 : Hid (w.heap.size < W1.heap.size) := Lib.hid hol
  clear hW1 hB1
  go_enter Tryz.func54, Tryz.ntmps54
  go_wp2_with fail
  rw [← HW1.out]
  refine (hgd _ HB1.out).mono ?_
  rintro e w2 ⟨rfl, hB2⟩
  have c0 := below_at hB2 c0 hol
  have c1 := below_at hB2 c1 hol
  have c2 := below_at hB2 c2 hol
  have c3 := below_at hB2 c3 hol
  have c4 := below_at hB2 c4 hol
  have c5 := below_at hB2 c5 hol
  have c6 := below_at hB2 c6 hol
  have c7 := below_at hB2 c7 hol
  have c8 := below_at hB2 c8 hol
  have c9 := below_at hB2 c9 hol
  have c10 := below_at hB2 c10 hol
  have c11 := below_at hB2 c11 hol
  have hol := cell_lt c0
  have HB2 := Lib.hid (HB1.out.trans (hB2.mono HB1.out.size))
  have HL2 : Hid (W1.heap.size ≤ w2.heap.size) := Lib.hid hB2.size
  clear hB2
  go_wp2_with fail
  refine (rpNew_any w2).mono ?_
  rintro e w3 ⟨pb, rfl, hP3, hB3⟩
  have hB3' := hB3
  have c0 := below_at hB3 c0 hol
  have c1 := below_at hB3 c1 hol
  have c2 := below_at hB3 c2 hol
  have c3 := below_at hB3 c3 hol
  have c4 := below_at hB3 c4 hol
  have c5 := below_at hB3 c5 hol
  have c6 := below_at hB3 c6 hol
  have c7 := below_at hB3 c7 hol
  have c8 := below_at hB3 c8 hol
  have c9 := below_at hB3 c9 hol
  have c10 := below_at hB3 c10 hol
  have c11 := below_at hB3 c11 hol
  have hol := Nat.lt_of_lt_of_le hol hB3.size
  have HB3 := Lib.hid (HB2.out.trans (hB3.mono HB2.out.size))
  have hz3 := hB3.size
  clear hB3 hB3'
  clear hgd
  go_wp2_with fail
  have hoW : w.heap.size < w2.heap.size := Nat.lt_of_lt_of_le HL1.out HL2.out
  refine (rpNum1 w3 w2.heap.size pb [] 8 (by decide) hP3 (by simp) hz3).mono ?_
  rintro e w4 ⟨rfl, hP4, hB4⟩
  have c0 := below_at hB4 c0 hoW
  have c1 := below_at hB4 c1 hoW
  have c2 := below_at hB4 c2 hoW
  have c3 := below_at hB4 c3 hoW
  have c4 := below_at hB4 c4 hoW
  have c5 := below_at hB4 c5 hoW
  have c6 := below_at hB4 c6 hoW
  have c7 := below_at hB4 c7 hoW
  have c8 := below_at hB4 c8 hoW
  have c9 := below_at hB4 c9 hoW
  have c10 := below_at hB4 c10 hoW
  have c11 := below_at hB4 c11 hoW
  have HB4 := Lib.hid (HB3.out.trans (hB4.mono HB2.out.size))
  have hz4 : w2.heap.size ≤ w4.heap.size := Nat.le_trans hz3 hB4.size
  clear hB4 hP3
  go_wp2_with fail
  refine (rpNum1 w4 w2.heap.size pb ([] ++ putB 8 1) c (by omega) hP4 (by simp [putB_length]) hz4).mono ?_
  rintro e w5 ⟨rfl, hP5, hB5⟩
  have c0 := below_at hB5 c0 hoW
  have c1 := below_at hB5 c1 hoW
  have c2 := below_at hB5 c2 hoW
  have c3 := below_at hB5 c3 hoW
  have c4 := below_at hB5 c4 hoW
  have c5 := below_at hB5 c5 hoW
  have c6 := below_at hB5 c6 hoW
  have c7 := below_at hB5 c7 hoW
  have c8 := below_at hB5 c8 hoW
  have c9 := below_at hB5 c9 hoW
  have c10 := below_at hB5 c10 hoW
  have c11 := below_at hB5 c11 hoW
  have HB5 := Lib.hid (HB4.out.trans (hB5.mono HB2.out.size))
  have hz5 : w2.heap.size ≤ w5.heap.size := Nat.le_trans hz4 hB5.size
  clear hB5 hP4
  go_wp2_with fail
  refine (rpNum4 w5 w2.heap.size pb ([] ++ putB 8 1 ++ putB c 1) s (by omega) hP5 (by simp [putB_length]) hz5).mono ?_
  rintro e w6 ⟨rfl, hP6, hB6⟩
  have c0 := below_at hB6 c0 hoW
  have c1 := below_at hB6 c1 hoW
  have c2 := below_at hB6 c2 hoW
  have c3 := below_at hB6 c3 hoW
  have c4 := below_at hB6 c4 hoW
  have c5 := below_at hB6 c5 hoW
  have c6 := below_at hB6 c6 hoW
  have c7 := below_at hB6 c7 hoW
  have c8 := below_at hB6 c8 hoW
  have c9 := below_at hB6 c9 hoW
  have c10 := below_at hB6 c10 hoW
  have c11 := below_at hB6 c11 hoW
  have HB6 := Lib.hid (HB5.out.trans (hB6.mono HB2.out.size))
  have hz6 : w2.heap.size ≤ w6.heap.size := Nat.le_trans hz5 hB6.size
  clear hB6 hP5
  go_wp2_with fail
  refine (rpText_any w6 w2.heap.size pb ([] ++ putB 8 1 ++ putB c 1 ++ putB s 4) p (by omega) hP6 (by simp [putB_length]; try omega) hz6).mono ?_
  rintro e w7 ⟨rfl, hP7, hB7⟩
  have c0 := below_at hB7 c0 hoW
  have c1 := below_at hB7 c1 hoW
  have c2 := below_at hB7 c2 hoW
  have c3 := below_at hB7 c3 hoW
  have c4 := below_at hB7 c4 hoW
  have c5 := below_at hB7 c5 hoW
  have c6 := below_at hB7 c6 hoW
  have c7 := below_at hB7 c7 hoW
  have c8 := below_at hB7 c8 hoW
  have c9 := below_at hB7 c9 hoW
  have c10 := below_at hB7 c10 hoW
  have c11 := below_at hB7 c11 hoW
  have HB7 := Lib.hid (HB6.out.trans (hB7.mono HB2.out.size))
  have hz7 : w2.heap.size ≤ w7.heap.size := Nat.le_trans hz6 hB7.size
  clear hB7 hP6
  go_wp2_with fail
  have hdn := rpDone_ok w7 w2.heap.size pb ([] ++ putB 8 1 ++ putB c 1 ++ putB s 4 ++ (putB p.length 2 ++ p)) hP7 (by simp [putB_length]; try omega)
  refine hdn.mono ?_
  rintro e wz ⟨rfl, hBz⟩
  have HBz := Lib.hid (HB7.out.trans (hBz.mono HB7.out.size))
  clear hBz hdn
  go_wp2_with fail
  go_ret2
  exact ⟨([] ++ putB 8 1 ++ putB c 1 ++ putB s 4 ++ (putB p.length 2 ++ p)), 0, rfl, HBz.out⟩
set_option maxRecDepth 100000 in
set_option maxHeartbeats 8000000 in
theorem encG4 (w : World) (c s : Nat) (p q : Nm) (xz xh xo : Int) (xt : ByteArray) (xi xn : Int) (mp : Option Addr) (ml mc : Nat)  (hc : c ≤ 7) (hs : 1 ≤ s ∧ s ≤ 2147483647) (hpl : p.length ≤ 2000) (hql : q.length ≤ 2000) (hgd : ∀ W, Below w.heap.size w W → Calls Tryz.prog 95 #[.agg #[.int .i64 c, .int .i64 s, .int .i64 4, .string (bs p), .string (bs q), .int .i64 xz, .int .i64 xh, .int .i64 xo, .string xt, .int .i64 xi, .int .i64 xn, .slice mp ml mc]] W (BoolB W true)) :
    Calls Tryz.prog 54 #[.agg #[.int .i64 c, .int .i64 s, .int .i64 4, .string (bs p), .string (bs q), .int .i64 xz, .int .i64 xh, .int .i64 xo, .string xt, .int .i64 xi, .int .i64 xn, .slice mp ml mc]] w (EncAny w) := by
  obtain ⟨W1, hW1⟩ : ∃ W1, W1 = w.alloc (.cells #[.int .i64 c, .int .i64 s, .int .i64 4, .string (bs p), .string (bs q), .int .i64 xz, .int .i64 xh, .int .i64 xo, .string xt, .int .i64 xi, .int .i64 xn, .slice mp ml mc] 41) := ⟨_, rfl⟩
  have hB1 : Below w.heap.size w W1 := by rw [hW1]; exact belC (Below.refl _ _)
  have c0 : W1.cell? ⟨w.heap.size, 0, none⟩ = some (.int .i64 c) := by rw [hW1]; go_simp
  have c1 : W1.cell? ⟨w.heap.size, 1, none⟩ = some (.int .i64 s) := by rw [hW1]; go_simp
  have c2 : W1.cell? ⟨w.heap.size, 2, none⟩ = some (.int .i64 4) := by rw [hW1]; go_simp
  have c3 : W1.cell? ⟨w.heap.size, 3, none⟩ = some (.string (bs p)) := by rw [hW1]; go_simp
  have c4 : W1.cell? ⟨w.heap.size, 4, none⟩ = some (.string (bs q)) := by rw [hW1]; go_simp
  have c5 : W1.cell? ⟨w.heap.size, 5, none⟩ = some (.int .i64 xz) := by rw [hW1]; go_simp
  have c6 : W1.cell? ⟨w.heap.size, 6, none⟩ = some (.int .i64 xh) := by rw [hW1]; go_simp
  have c7 : W1.cell? ⟨w.heap.size, 7, none⟩ = some (.int .i64 xo) := by rw [hW1]; go_simp
  have c8 : W1.cell? ⟨w.heap.size, 8, none⟩ = some (.string xt) := by rw [hW1]; go_simp
  have c9 : W1.cell? ⟨w.heap.size, 9, none⟩ = some (.int .i64 xi) := by rw [hW1]; go_simp
  have c10 : W1.cell? ⟨w.heap.size, 10, none⟩ = some (.int .i64 xn) := by rw [hW1]; go_simp
  have c11 : W1.cell? ⟨w.heap.size, 11, none⟩ = some (.slice mp ml mc) := by rw [hW1]; go_simp
  have hol := cell_lt c0
  have HW1 := Lib.hid hW1
  have HB1 := Lib.hid hB1
  have HL1 : Hid (w.heap.size < W1.heap.size) := Lib.hid hol
  clear hW1 hB1
  go_enter Tryz.func54, Tryz.ntmps54
  go_wp2_with fail
  rw [← HW1.out]
  refine (hgd _ HB1.out).mono ?_
  rintro e w2 ⟨rfl, hB2⟩
  have c0 := below_at hB2 c0 hol
  have c1 := below_at hB2 c1 hol
  have c2 := below_at hB2 c2 hol
  have c3 := below_at hB2 c3 hol
  have c4 := below_at hB2 c4 hol
  have c5 := below_at hB2 c5 hol
  have c6 := below_at hB2 c6 hol
  have c7 := below_at hB2 c7 hol
  have c8 := below_at hB2 c8 hol
  have c9 := below_at hB2 c9 hol
  have c10 := below_at hB2 c10 hol
  have c11 := below_at hB2 c11 hol
  have hol := cell_lt c0
  have HB2 := Lib.hid (HB1.out.trans (hB2.mono HB1.out.size))
  have HL2 : Hid (W1.heap.size ≤ w2.heap.size) := Lib.hid hB2.size
  clear hB2
  go_wp2_with fail
  refine (rpNew_any w2).mono ?_
  rintro e w3 ⟨pb, rfl, hP3, hB3⟩
  have hB3' := hB3
  have c0 := below_at hB3 c0 hol
  have c1 := below_at hB3 c1 hol
  have c2 := below_at hB3 c2 hol
  have c3 := below_at hB3 c3 hol
  have c4 := below_at hB3 c4 hol
  have c5 := below_at hB3 c5 hol
  have c6 := below_at hB3 c6 hol
  have c7 := below_at hB3 c7 hol
  have c8 := below_at hB3 c8 hol
  have c9 := below_at hB3 c9 hol
  have c10 := below_at hB3 c10 hol
  have c11 := below_at hB3 c11 hol
  have hol := Nat.lt_of_lt_of_le hol hB3.size
  have HB3 := Lib.hid (HB2.out.trans (hB3.mono HB2.out.size))
  have hz3 := hB3.size
  clear hB3 hB3'
  clear hgd
  go_wp2_with fail
  have hoW : w.heap.size < w2.heap.size := Nat.lt_of_lt_of_le HL1.out HL2.out
  refine (rpNum1 w3 w2.heap.size pb [] 4 (by decide) hP3 (by simp) hz3).mono ?_
  rintro e w4 ⟨rfl, hP4, hB4⟩
  have c0 := below_at hB4 c0 hoW
  have c1 := below_at hB4 c1 hoW
  have c2 := below_at hB4 c2 hoW
  have c3 := below_at hB4 c3 hoW
  have c4 := below_at hB4 c4 hoW
  have c5 := below_at hB4 c5 hoW
  have c6 := below_at hB4 c6 hoW
  have c7 := below_at hB4 c7 hoW
  have c8 := below_at hB4 c8 hoW
  have c9 := below_at hB4 c9 hoW
  have c10 := below_at hB4 c10 hoW
  have c11 := below_at hB4 c11 hoW
  have HB4 := Lib.hid (HB3.out.trans (hB4.mono HB2.out.size))
  have hz4 : w2.heap.size ≤ w4.heap.size := Nat.le_trans hz3 hB4.size
  clear hB4 hP3
  go_wp2_with fail
  refine (rpNum1 w4 w2.heap.size pb ([] ++ putB 4 1) c (by omega) hP4 (by simp [putB_length]) hz4).mono ?_
  rintro e w5 ⟨rfl, hP5, hB5⟩
  have c0 := below_at hB5 c0 hoW
  have c1 := below_at hB5 c1 hoW
  have c2 := below_at hB5 c2 hoW
  have c3 := below_at hB5 c3 hoW
  have c4 := below_at hB5 c4 hoW
  have c5 := below_at hB5 c5 hoW
  have c6 := below_at hB5 c6 hoW
  have c7 := below_at hB5 c7 hoW
  have c8 := below_at hB5 c8 hoW
  have c9 := below_at hB5 c9 hoW
  have c10 := below_at hB5 c10 hoW
  have c11 := below_at hB5 c11 hoW
  have HB5 := Lib.hid (HB4.out.trans (hB5.mono HB2.out.size))
  have hz5 : w2.heap.size ≤ w5.heap.size := Nat.le_trans hz4 hB5.size
  clear hB5 hP4
  go_wp2_with fail
  refine (rpNum4 w5 w2.heap.size pb ([] ++ putB 4 1 ++ putB c 1) s (by omega) hP5 (by simp [putB_length]) hz5).mono ?_
  rintro e w6 ⟨rfl, hP6, hB6⟩
  have c0 := below_at hB6 c0 hoW
  have c1 := below_at hB6 c1 hoW
  have c2 := below_at hB6 c2 hoW
  have c3 := below_at hB6 c3 hoW
  have c4 := below_at hB6 c4 hoW
  have c5 := below_at hB6 c5 hoW
  have c6 := below_at hB6 c6 hoW
  have c7 := below_at hB6 c7 hoW
  have c8 := below_at hB6 c8 hoW
  have c9 := below_at hB6 c9 hoW
  have c10 := below_at hB6 c10 hoW
  have c11 := below_at hB6 c11 hoW
  have HB6 := Lib.hid (HB5.out.trans (hB6.mono HB2.out.size))
  have hz6 : w2.heap.size ≤ w6.heap.size := Nat.le_trans hz5 hB6.size
  clear hB6 hP5
  go_wp2_with fail
  refine (rpText_any w6 w2.heap.size pb ([] ++ putB 4 1 ++ putB c 1 ++ putB s 4) p (by omega) hP6 (by simp [putB_length]; try omega) hz6).mono ?_
  rintro e w7 ⟨rfl, hP7, hB7⟩
  have c0 := below_at hB7 c0 hoW
  have c1 := below_at hB7 c1 hoW
  have c2 := below_at hB7 c2 hoW
  have c3 := below_at hB7 c3 hoW
  have c4 := below_at hB7 c4 hoW
  have c5 := below_at hB7 c5 hoW
  have c6 := below_at hB7 c6 hoW
  have c7 := below_at hB7 c7 hoW
  have c8 := below_at hB7 c8 hoW
  have c9 := below_at hB7 c9 hoW
  have c10 := below_at hB7 c10 hoW
  have c11 := below_at hB7 c11 hoW
  have HB7 := Lib.hid (HB6.out.trans (hB7.mono HB2.out.size))
  have hz7 : w2.heap.size ≤ w7.heap.size := Nat.le_trans hz6 hB7.size
  clear hB7 hP6
  go_wp2_with fail
  refine (rpText_any w7 w2.heap.size pb ([] ++ putB 4 1 ++ putB c 1 ++ putB s 4 ++ (putB p.length 2 ++ p)) q (by omega) hP7 (by simp [putB_length]; try omega) hz7).mono ?_
  rintro e w8 ⟨rfl, hP8, hB8⟩
  have c0 := below_at hB8 c0 hoW
  have c1 := below_at hB8 c1 hoW
  have c2 := below_at hB8 c2 hoW
  have c3 := below_at hB8 c3 hoW
  have c4 := below_at hB8 c4 hoW
  have c5 := below_at hB8 c5 hoW
  have c6 := below_at hB8 c6 hoW
  have c7 := below_at hB8 c7 hoW
  have c8 := below_at hB8 c8 hoW
  have c9 := below_at hB8 c9 hoW
  have c10 := below_at hB8 c10 hoW
  have c11 := below_at hB8 c11 hoW
  have HB8 := Lib.hid (HB7.out.trans (hB8.mono HB2.out.size))
  have hz8 : w2.heap.size ≤ w8.heap.size := Nat.le_trans hz7 hB8.size
  clear hB8 hP7
  go_wp2_with fail
  have hdn := rpDone_ok w8 w2.heap.size pb ([] ++ putB 4 1 ++ putB c 1 ++ putB s 4 ++ (putB p.length 2 ++ p) ++ (putB q.length 2 ++ q)) hP8 (by simp [putB_length]; try omega)
  refine hdn.mono ?_
  rintro e wz ⟨rfl, hBz⟩
  have HBz := Lib.hid (HB8.out.trans (hBz.mono HB8.out.size))
  clear hBz hdn
  go_wp2_with fail
  go_ret2
  exact ⟨([] ++ putB 4 1 ++ putB c 1 ++ putB s 4 ++ (putB p.length 2 ++ p) ++ (putB q.length 2 ++ q)), 0, rfl, HBz.out⟩
set_option maxRecDepth 100000 in
set_option maxHeartbeats 8000000 in
theorem encG6 (w : World) (c s : Nat) (p q : Nm) (xz xh xo : Int) (xt : ByteArray) (xi xn : Int) (mp : Option Addr) (ml mc : Nat)  (hc : c ≤ 7) (hs : 1 ≤ s ∧ s ≤ 2147483647) (hpl : p.length ≤ 2000) (hql : q.length ≤ 2000) (hgd : ∀ W, Below w.heap.size w W → Calls Tryz.prog 95 #[.agg #[.int .i64 c, .int .i64 s, .int .i64 6, .string (bs p), .string (bs q), .int .i64 xz, .int .i64 xh, .int .i64 xo, .string xt, .int .i64 xi, .int .i64 xn, .slice mp ml mc]] W (BoolB W true)) :
    Calls Tryz.prog 54 #[.agg #[.int .i64 c, .int .i64 s, .int .i64 6, .string (bs p), .string (bs q), .int .i64 xz, .int .i64 xh, .int .i64 xo, .string xt, .int .i64 xi, .int .i64 xn, .slice mp ml mc]] w (EncAny w) := by
  obtain ⟨W1, hW1⟩ : ∃ W1, W1 = w.alloc (.cells #[.int .i64 c, .int .i64 s, .int .i64 6, .string (bs p), .string (bs q), .int .i64 xz, .int .i64 xh, .int .i64 xo, .string xt, .int .i64 xi, .int .i64 xn, .slice mp ml mc] 41) := ⟨_, rfl⟩
  have hB1 : Below w.heap.size w W1 := by rw [hW1]; exact belC (Below.refl _ _)
  have c0 : W1.cell? ⟨w.heap.size, 0, none⟩ = some (.int .i64 c) := by rw [hW1]; go_simp
  have c1 : W1.cell? ⟨w.heap.size, 1, none⟩ = some (.int .i64 s) := by rw [hW1]; go_simp
  have c2 : W1.cell? ⟨w.heap.size, 2, none⟩ = some (.int .i64 6) := by rw [hW1]; go_simp
  have c3 : W1.cell? ⟨w.heap.size, 3, none⟩ = some (.string (bs p)) := by rw [hW1]; go_simp
  have c4 : W1.cell? ⟨w.heap.size, 4, none⟩ = some (.string (bs q)) := by rw [hW1]; go_simp
  have c5 : W1.cell? ⟨w.heap.size, 5, none⟩ = some (.int .i64 xz) := by rw [hW1]; go_simp
  have c6 : W1.cell? ⟨w.heap.size, 6, none⟩ = some (.int .i64 xh) := by rw [hW1]; go_simp
  have c7 : W1.cell? ⟨w.heap.size, 7, none⟩ = some (.int .i64 xo) := by rw [hW1]; go_simp
  have c8 : W1.cell? ⟨w.heap.size, 8, none⟩ = some (.string xt) := by rw [hW1]; go_simp
  have c9 : W1.cell? ⟨w.heap.size, 9, none⟩ = some (.int .i64 xi) := by rw [hW1]; go_simp
  have c10 : W1.cell? ⟨w.heap.size, 10, none⟩ = some (.int .i64 xn) := by rw [hW1]; go_simp
  have c11 : W1.cell? ⟨w.heap.size, 11, none⟩ = some (.slice mp ml mc) := by rw [hW1]; go_simp
  have hol := cell_lt c0
  have HW1 := Lib.hid hW1
  have HB1 := Lib.hid hB1
  have HL1 : Hid (w.heap.size < W1.heap.size) := Lib.hid hol
  clear hW1 hB1
  go_enter Tryz.func54, Tryz.ntmps54
  go_wp2_with fail
  rw [← HW1.out]
  refine (hgd _ HB1.out).mono ?_
  rintro e w2 ⟨rfl, hB2⟩
  have c0 := below_at hB2 c0 hol
  have c1 := below_at hB2 c1 hol
  have c2 := below_at hB2 c2 hol
  have c3 := below_at hB2 c3 hol
  have c4 := below_at hB2 c4 hol
  have c5 := below_at hB2 c5 hol
  have c6 := below_at hB2 c6 hol
  have c7 := below_at hB2 c7 hol
  have c8 := below_at hB2 c8 hol
  have c9 := below_at hB2 c9 hol
  have c10 := below_at hB2 c10 hol
  have c11 := below_at hB2 c11 hol
  have hol := cell_lt c0
  have HB2 := Lib.hid (HB1.out.trans (hB2.mono HB1.out.size))
  have HL2 : Hid (W1.heap.size ≤ w2.heap.size) := Lib.hid hB2.size
  clear hB2
  go_wp2_with fail
  refine (rpNew_any w2).mono ?_
  rintro e w3 ⟨pb, rfl, hP3, hB3⟩
  have hB3' := hB3
  have c0 := below_at hB3 c0 hol
  have c1 := below_at hB3 c1 hol
  have c2 := below_at hB3 c2 hol
  have c3 := below_at hB3 c3 hol
  have c4 := below_at hB3 c4 hol
  have c5 := below_at hB3 c5 hol
  have c6 := below_at hB3 c6 hol
  have c7 := below_at hB3 c7 hol
  have c8 := below_at hB3 c8 hol
  have c9 := below_at hB3 c9 hol
  have c10 := below_at hB3 c10 hol
  have c11 := below_at hB3 c11 hol
  have hol := Nat.lt_of_lt_of_le hol hB3.size
  have HB3 := Lib.hid (HB2.out.trans (hB3.mono HB2.out.size))
  have hz3 := hB3.size
  clear hB3 hB3'
  clear hgd
  go_wp2_with fail
  have hoW : w.heap.size < w2.heap.size := Nat.lt_of_lt_of_le HL1.out HL2.out
  refine (rpNum1 w3 w2.heap.size pb [] 6 (by decide) hP3 (by simp) hz3).mono ?_
  rintro e w4 ⟨rfl, hP4, hB4⟩
  have c0 := below_at hB4 c0 hoW
  have c1 := below_at hB4 c1 hoW
  have c2 := below_at hB4 c2 hoW
  have c3 := below_at hB4 c3 hoW
  have c4 := below_at hB4 c4 hoW
  have c5 := below_at hB4 c5 hoW
  have c6 := below_at hB4 c6 hoW
  have c7 := below_at hB4 c7 hoW
  have c8 := below_at hB4 c8 hoW
  have c9 := below_at hB4 c9 hoW
  have c10 := below_at hB4 c10 hoW
  have c11 := below_at hB4 c11 hoW
  have HB4 := Lib.hid (HB3.out.trans (hB4.mono HB2.out.size))
  have hz4 : w2.heap.size ≤ w4.heap.size := Nat.le_trans hz3 hB4.size
  clear hB4 hP3
  go_wp2_with fail
  refine (rpNum1 w4 w2.heap.size pb ([] ++ putB 6 1) c (by omega) hP4 (by simp [putB_length]) hz4).mono ?_
  rintro e w5 ⟨rfl, hP5, hB5⟩
  have c0 := below_at hB5 c0 hoW
  have c1 := below_at hB5 c1 hoW
  have c2 := below_at hB5 c2 hoW
  have c3 := below_at hB5 c3 hoW
  have c4 := below_at hB5 c4 hoW
  have c5 := below_at hB5 c5 hoW
  have c6 := below_at hB5 c6 hoW
  have c7 := below_at hB5 c7 hoW
  have c8 := below_at hB5 c8 hoW
  have c9 := below_at hB5 c9 hoW
  have c10 := below_at hB5 c10 hoW
  have c11 := below_at hB5 c11 hoW
  have HB5 := Lib.hid (HB4.out.trans (hB5.mono HB2.out.size))
  have hz5 : w2.heap.size ≤ w5.heap.size := Nat.le_trans hz4 hB5.size
  clear hB5 hP4
  go_wp2_with fail
  refine (rpNum4 w5 w2.heap.size pb ([] ++ putB 6 1 ++ putB c 1) s (by omega) hP5 (by simp [putB_length]) hz5).mono ?_
  rintro e w6 ⟨rfl, hP6, hB6⟩
  have c0 := below_at hB6 c0 hoW
  have c1 := below_at hB6 c1 hoW
  have c2 := below_at hB6 c2 hoW
  have c3 := below_at hB6 c3 hoW
  have c4 := below_at hB6 c4 hoW
  have c5 := below_at hB6 c5 hoW
  have c6 := below_at hB6 c6 hoW
  have c7 := below_at hB6 c7 hoW
  have c8 := below_at hB6 c8 hoW
  have c9 := below_at hB6 c9 hoW
  have c10 := below_at hB6 c10 hoW
  have c11 := below_at hB6 c11 hoW
  have HB6 := Lib.hid (HB5.out.trans (hB6.mono HB2.out.size))
  have hz6 : w2.heap.size ≤ w6.heap.size := Nat.le_trans hz5 hB6.size
  clear hB6 hP5
  go_wp2_with fail
  refine (rpText_any w6 w2.heap.size pb ([] ++ putB 6 1 ++ putB c 1 ++ putB s 4) p (by omega) hP6 (by simp [putB_length]; try omega) hz6).mono ?_
  rintro e w7 ⟨rfl, hP7, hB7⟩
  have c0 := below_at hB7 c0 hoW
  have c1 := below_at hB7 c1 hoW
  have c2 := below_at hB7 c2 hoW
  have c3 := below_at hB7 c3 hoW
  have c4 := below_at hB7 c4 hoW
  have c5 := below_at hB7 c5 hoW
  have c6 := below_at hB7 c6 hoW
  have c7 := below_at hB7 c7 hoW
  have c8 := below_at hB7 c8 hoW
  have c9 := below_at hB7 c9 hoW
  have c10 := below_at hB7 c10 hoW
  have c11 := below_at hB7 c11 hoW
  have HB7 := Lib.hid (HB6.out.trans (hB7.mono HB2.out.size))
  have hz7 : w2.heap.size ≤ w7.heap.size := Nat.le_trans hz6 hB7.size
  clear hB7 hP6
  go_wp2_with fail
  refine (rpText_any w7 w2.heap.size pb ([] ++ putB 6 1 ++ putB c 1 ++ putB s 4 ++ (putB p.length 2 ++ p)) q (by omega) hP7 (by simp [putB_length]; try omega) hz7).mono ?_
  rintro e w8 ⟨rfl, hP8, hB8⟩
  have c0 := below_at hB8 c0 hoW
  have c1 := below_at hB8 c1 hoW
  have c2 := below_at hB8 c2 hoW
  have c3 := below_at hB8 c3 hoW
  have c4 := below_at hB8 c4 hoW
  have c5 := below_at hB8 c5 hoW
  have c6 := below_at hB8 c6 hoW
  have c7 := below_at hB8 c7 hoW
  have c8 := below_at hB8 c8 hoW
  have c9 := below_at hB8 c9 hoW
  have c10 := below_at hB8 c10 hoW
  have c11 := below_at hB8 c11 hoW
  have HB8 := Lib.hid (HB7.out.trans (hB8.mono HB2.out.size))
  have hz8 : w2.heap.size ≤ w8.heap.size := Nat.le_trans hz7 hB8.size
  clear hB8 hP7
  go_wp2_with fail
  have hdn := rpDone_ok w8 w2.heap.size pb ([] ++ putB 6 1 ++ putB c 1 ++ putB s 4 ++ (putB p.length 2 ++ p) ++ (putB q.length 2 ++ q)) hP8 (by simp [putB_length]; try omega)
  refine hdn.mono ?_
  rintro e wz ⟨rfl, hBz⟩
  have HBz := Lib.hid (HB8.out.trans (hBz.mono HB8.out.size))
  clear hBz hdn
  go_wp2_with fail
  go_ret2
  exact ⟨([] ++ putB 6 1 ++ putB c 1 ++ putB s 4 ++ (putB p.length 2 ++ p) ++ (putB q.length 2 ++ q)), 0, rfl, HBz.out⟩
set_option maxRecDepth 100000 in
set_option maxHeartbeats 8000000 in
theorem encG7 (w : World) (c s : Nat) (p q : Nm) (_xz xh xo : Int) (xt : ByteArray) (xi xn : Int) (mp : Option Addr) (ml mc : Nat) (z : Nat) (hc : c ≤ 7) (hs : 1 ≤ s ∧ s ≤ 2147483647) (hpl : p.length ≤ 2000) (hz0 : z ≤ 8192) (hgd : ∀ W, Below w.heap.size w W → Calls Tryz.prog 95 #[.agg #[.int .i64 c, .int .i64 s, .int .i64 7, .string (bs p), .string (bs q), .int .i64 z, .int .i64 xh, .int .i64 xo, .string xt, .int .i64 xi, .int .i64 xn, .slice mp ml mc]] W (BoolB W true)) :
    Calls Tryz.prog 54 #[.agg #[.int .i64 c, .int .i64 s, .int .i64 7, .string (bs p), .string (bs q), .int .i64 z, .int .i64 xh, .int .i64 xo, .string xt, .int .i64 xi, .int .i64 xn, .slice mp ml mc]] w (EncAny w) := by
  obtain ⟨W1, hW1⟩ : ∃ W1, W1 = w.alloc (.cells #[.int .i64 c, .int .i64 s, .int .i64 7, .string (bs p), .string (bs q), .int .i64 z, .int .i64 xh, .int .i64 xo, .string xt, .int .i64 xi, .int .i64 xn, .slice mp ml mc] 41) := ⟨_, rfl⟩
  have hB1 : Below w.heap.size w W1 := by rw [hW1]; exact belC (Below.refl _ _)
  have c0 : W1.cell? ⟨w.heap.size, 0, none⟩ = some (.int .i64 c) := by rw [hW1]; go_simp
  have c1 : W1.cell? ⟨w.heap.size, 1, none⟩ = some (.int .i64 s) := by rw [hW1]; go_simp
  have c2 : W1.cell? ⟨w.heap.size, 2, none⟩ = some (.int .i64 7) := by rw [hW1]; go_simp
  have c3 : W1.cell? ⟨w.heap.size, 3, none⟩ = some (.string (bs p)) := by rw [hW1]; go_simp
  have c4 : W1.cell? ⟨w.heap.size, 4, none⟩ = some (.string (bs q)) := by rw [hW1]; go_simp
  have c5 : W1.cell? ⟨w.heap.size, 5, none⟩ = some (.int .i64 z) := by rw [hW1]; go_simp
  have c6 : W1.cell? ⟨w.heap.size, 6, none⟩ = some (.int .i64 xh) := by rw [hW1]; go_simp
  have c7 : W1.cell? ⟨w.heap.size, 7, none⟩ = some (.int .i64 xo) := by rw [hW1]; go_simp
  have c8 : W1.cell? ⟨w.heap.size, 8, none⟩ = some (.string xt) := by rw [hW1]; go_simp
  have c9 : W1.cell? ⟨w.heap.size, 9, none⟩ = some (.int .i64 xi) := by rw [hW1]; go_simp
  have c10 : W1.cell? ⟨w.heap.size, 10, none⟩ = some (.int .i64 xn) := by rw [hW1]; go_simp
  have c11 : W1.cell? ⟨w.heap.size, 11, none⟩ = some (.slice mp ml mc) := by rw [hW1]; go_simp
  have hol := cell_lt c0
  have HW1 := Lib.hid hW1
  have HB1 := Lib.hid hB1
  have HL1 : Hid (w.heap.size < W1.heap.size) := Lib.hid hol
  clear hW1 hB1
  go_enter Tryz.func54, Tryz.ntmps54
  go_wp2_with fail
  rw [← HW1.out]
  refine (hgd _ HB1.out).mono ?_
  rintro e w2 ⟨rfl, hB2⟩
  have c0 := below_at hB2 c0 hol
  have c1 := below_at hB2 c1 hol
  have c2 := below_at hB2 c2 hol
  have c3 := below_at hB2 c3 hol
  have c4 := below_at hB2 c4 hol
  have c5 := below_at hB2 c5 hol
  have c6 := below_at hB2 c6 hol
  have c7 := below_at hB2 c7 hol
  have c8 := below_at hB2 c8 hol
  have c9 := below_at hB2 c9 hol
  have c10 := below_at hB2 c10 hol
  have c11 := below_at hB2 c11 hol
  have hol := cell_lt c0
  have HB2 := Lib.hid (HB1.out.trans (hB2.mono HB1.out.size))
  have HL2 : Hid (W1.heap.size ≤ w2.heap.size) := Lib.hid hB2.size
  clear hB2
  go_wp2_with fail
  refine (rpNew_any w2).mono ?_
  rintro e w3 ⟨pb, rfl, hP3, hB3⟩
  have hB3' := hB3
  have c0 := below_at hB3 c0 hol
  have c1 := below_at hB3 c1 hol
  have c2 := below_at hB3 c2 hol
  have c3 := below_at hB3 c3 hol
  have c4 := below_at hB3 c4 hol
  have c5 := below_at hB3 c5 hol
  have c6 := below_at hB3 c6 hol
  have c7 := below_at hB3 c7 hol
  have c8 := below_at hB3 c8 hol
  have c9 := below_at hB3 c9 hol
  have c10 := below_at hB3 c10 hol
  have c11 := below_at hB3 c11 hol
  have hol := Nat.lt_of_lt_of_le hol hB3.size
  have HB3 := Lib.hid (HB2.out.trans (hB3.mono HB2.out.size))
  have hz3 := hB3.size
  clear hB3 hB3'
  clear hgd
  go_wp2_with fail
  have hoW : w.heap.size < w2.heap.size := Nat.lt_of_lt_of_le HL1.out HL2.out
  refine (rpNum1 w3 w2.heap.size pb [] 7 (by decide) hP3 (by simp) hz3).mono ?_
  rintro e w4 ⟨rfl, hP4, hB4⟩
  have c0 := below_at hB4 c0 hoW
  have c1 := below_at hB4 c1 hoW
  have c2 := below_at hB4 c2 hoW
  have c3 := below_at hB4 c3 hoW
  have c4 := below_at hB4 c4 hoW
  have c5 := below_at hB4 c5 hoW
  have c6 := below_at hB4 c6 hoW
  have c7 := below_at hB4 c7 hoW
  have c8 := below_at hB4 c8 hoW
  have c9 := below_at hB4 c9 hoW
  have c10 := below_at hB4 c10 hoW
  have c11 := below_at hB4 c11 hoW
  have HB4 := Lib.hid (HB3.out.trans (hB4.mono HB2.out.size))
  have hz4 : w2.heap.size ≤ w4.heap.size := Nat.le_trans hz3 hB4.size
  clear hB4 hP3
  go_wp2_with fail
  refine (rpNum1 w4 w2.heap.size pb ([] ++ putB 7 1) c (by omega) hP4 (by simp [putB_length]) hz4).mono ?_
  rintro e w5 ⟨rfl, hP5, hB5⟩
  have c0 := below_at hB5 c0 hoW
  have c1 := below_at hB5 c1 hoW
  have c2 := below_at hB5 c2 hoW
  have c3 := below_at hB5 c3 hoW
  have c4 := below_at hB5 c4 hoW
  have c5 := below_at hB5 c5 hoW
  have c6 := below_at hB5 c6 hoW
  have c7 := below_at hB5 c7 hoW
  have c8 := below_at hB5 c8 hoW
  have c9 := below_at hB5 c9 hoW
  have c10 := below_at hB5 c10 hoW
  have c11 := below_at hB5 c11 hoW
  have HB5 := Lib.hid (HB4.out.trans (hB5.mono HB2.out.size))
  have hz5 : w2.heap.size ≤ w5.heap.size := Nat.le_trans hz4 hB5.size
  clear hB5 hP4
  go_wp2_with fail
  refine (rpNum4 w5 w2.heap.size pb ([] ++ putB 7 1 ++ putB c 1) s (by omega) hP5 (by simp [putB_length]) hz5).mono ?_
  rintro e w6 ⟨rfl, hP6, hB6⟩
  have c0 := below_at hB6 c0 hoW
  have c1 := below_at hB6 c1 hoW
  have c2 := below_at hB6 c2 hoW
  have c3 := below_at hB6 c3 hoW
  have c4 := below_at hB6 c4 hoW
  have c5 := below_at hB6 c5 hoW
  have c6 := below_at hB6 c6 hoW
  have c7 := below_at hB6 c7 hoW
  have c8 := below_at hB6 c8 hoW
  have c9 := below_at hB6 c9 hoW
  have c10 := below_at hB6 c10 hoW
  have c11 := below_at hB6 c11 hoW
  have HB6 := Lib.hid (HB5.out.trans (hB6.mono HB2.out.size))
  have hz6 : w2.heap.size ≤ w6.heap.size := Nat.le_trans hz5 hB6.size
  clear hB6 hP5
  go_wp2_with fail
  refine (rpText_any w6 w2.heap.size pb ([] ++ putB 7 1 ++ putB c 1 ++ putB s 4) p (by omega) hP6 (by simp [putB_length]; try omega) hz6).mono ?_
  rintro e w7 ⟨rfl, hP7, hB7⟩
  have c0 := below_at hB7 c0 hoW
  have c1 := below_at hB7 c1 hoW
  have c2 := below_at hB7 c2 hoW
  have c3 := below_at hB7 c3 hoW
  have c4 := below_at hB7 c4 hoW
  have c5 := below_at hB7 c5 hoW
  have c6 := below_at hB7 c6 hoW
  have c7 := below_at hB7 c7 hoW
  have c8 := below_at hB7 c8 hoW
  have c9 := below_at hB7 c9 hoW
  have c10 := below_at hB7 c10 hoW
  have c11 := below_at hB7 c11 hoW
  have HB7 := Lib.hid (HB6.out.trans (hB7.mono HB2.out.size))
  have hz7 : w2.heap.size ≤ w7.heap.size := Nat.le_trans hz6 hB7.size
  clear hB7 hP6
  go_wp2_with fail
  refine (rpNum4 w7 w2.heap.size pb ([] ++ putB 7 1 ++ putB c 1 ++ putB s 4 ++ (putB p.length 2 ++ p)) z (by omega) hP7 (by simp [putB_length]; try omega) hz7).mono ?_
  rintro e w8 ⟨rfl, hP8, hB8⟩
  have c0 := below_at hB8 c0 hoW
  have c1 := below_at hB8 c1 hoW
  have c2 := below_at hB8 c2 hoW
  have c3 := below_at hB8 c3 hoW
  have c4 := below_at hB8 c4 hoW
  have c5 := below_at hB8 c5 hoW
  have c6 := below_at hB8 c6 hoW
  have c7 := below_at hB8 c7 hoW
  have c8 := below_at hB8 c8 hoW
  have c9 := below_at hB8 c9 hoW
  have c10 := below_at hB8 c10 hoW
  have c11 := below_at hB8 c11 hoW
  have HB8 := Lib.hid (HB7.out.trans (hB8.mono HB2.out.size))
  have hz8 : w2.heap.size ≤ w8.heap.size := Nat.le_trans hz7 hB8.size
  clear hB8 hP7
  go_wp2_with fail
  have hdn := rpDone_ok w8 w2.heap.size pb ([] ++ putB 7 1 ++ putB c 1 ++ putB s 4 ++ (putB p.length 2 ++ p) ++ putB z 4) hP8 (by simp [putB_length]; try omega)
  refine hdn.mono ?_
  rintro e wz ⟨rfl, hBz⟩
  have HBz := Lib.hid (HB8.out.trans (hBz.mono HB8.out.size))
  clear hBz hdn
  go_wp2_with fail
  go_ret2
  exact ⟨([] ++ putB 7 1 ++ putB c 1 ++ putB s 4 ++ (putB p.length 2 ++ p) ++ putB z 4), 0, rfl, HBz.out⟩
set_option maxRecDepth 100000 in
set_option maxHeartbeats 8000000 in
theorem encG9 (w : World) (c s : Nat) (p q : Nm) (xz _xh xo : Int) (xt : ByteArray) (xi xn : Int) (mp : Option Addr) (ml mc : Nat) (h : Nat) (hc : c ≤ 7) (hs : 1 ≤ s ∧ s ≤ 2147483647) (hh : h ≤ 16383) (hgd : ∀ W, Below w.heap.size w W → Calls Tryz.prog 95 #[.agg #[.int .i64 c, .int .i64 s, .int .i64 9, .string (bs p), .string (bs q), .int .i64 xz, .int .i64 h, .int .i64 xo, .string xt, .int .i64 xi, .int .i64 xn, .slice mp ml mc]] W (BoolB W true)) :
    Calls Tryz.prog 54 #[.agg #[.int .i64 c, .int .i64 s, .int .i64 9, .string (bs p), .string (bs q), .int .i64 xz, .int .i64 h, .int .i64 xo, .string xt, .int .i64 xi, .int .i64 xn, .slice mp ml mc]] w (EncAny w) := by
  obtain ⟨W1, hW1⟩ : ∃ W1, W1 = w.alloc (.cells #[.int .i64 c, .int .i64 s, .int .i64 9, .string (bs p), .string (bs q), .int .i64 xz, .int .i64 h, .int .i64 xo, .string xt, .int .i64 xi, .int .i64 xn, .slice mp ml mc] 41) := ⟨_, rfl⟩
  have hB1 : Below w.heap.size w W1 := by rw [hW1]; exact belC (Below.refl _ _)
  have c0 : W1.cell? ⟨w.heap.size, 0, none⟩ = some (.int .i64 c) := by rw [hW1]; go_simp
  have c1 : W1.cell? ⟨w.heap.size, 1, none⟩ = some (.int .i64 s) := by rw [hW1]; go_simp
  have c2 : W1.cell? ⟨w.heap.size, 2, none⟩ = some (.int .i64 9) := by rw [hW1]; go_simp
  have c3 : W1.cell? ⟨w.heap.size, 3, none⟩ = some (.string (bs p)) := by rw [hW1]; go_simp
  have c4 : W1.cell? ⟨w.heap.size, 4, none⟩ = some (.string (bs q)) := by rw [hW1]; go_simp
  have c5 : W1.cell? ⟨w.heap.size, 5, none⟩ = some (.int .i64 xz) := by rw [hW1]; go_simp
  have c6 : W1.cell? ⟨w.heap.size, 6, none⟩ = some (.int .i64 h) := by rw [hW1]; go_simp
  have c7 : W1.cell? ⟨w.heap.size, 7, none⟩ = some (.int .i64 xo) := by rw [hW1]; go_simp
  have c8 : W1.cell? ⟨w.heap.size, 8, none⟩ = some (.string xt) := by rw [hW1]; go_simp
  have c9 : W1.cell? ⟨w.heap.size, 9, none⟩ = some (.int .i64 xi) := by rw [hW1]; go_simp
  have c10 : W1.cell? ⟨w.heap.size, 10, none⟩ = some (.int .i64 xn) := by rw [hW1]; go_simp
  have c11 : W1.cell? ⟨w.heap.size, 11, none⟩ = some (.slice mp ml mc) := by rw [hW1]; go_simp
  have hol := cell_lt c0
  have HW1 := Lib.hid hW1
  have HB1 := Lib.hid hB1
  have HL1 : Hid (w.heap.size < W1.heap.size) := Lib.hid hol
  clear hW1 hB1
  go_enter Tryz.func54, Tryz.ntmps54
  go_wp2_with fail
  rw [← HW1.out]
  refine (hgd _ HB1.out).mono ?_
  rintro e w2 ⟨rfl, hB2⟩
  have c0 := below_at hB2 c0 hol
  have c1 := below_at hB2 c1 hol
  have c2 := below_at hB2 c2 hol
  have c3 := below_at hB2 c3 hol
  have c4 := below_at hB2 c4 hol
  have c5 := below_at hB2 c5 hol
  have c6 := below_at hB2 c6 hol
  have c7 := below_at hB2 c7 hol
  have c8 := below_at hB2 c8 hol
  have c9 := below_at hB2 c9 hol
  have c10 := below_at hB2 c10 hol
  have c11 := below_at hB2 c11 hol
  have hol := cell_lt c0
  have HB2 := Lib.hid (HB1.out.trans (hB2.mono HB1.out.size))
  have HL2 : Hid (W1.heap.size ≤ w2.heap.size) := Lib.hid hB2.size
  clear hB2
  go_wp2_with fail
  refine (rpNew_any w2).mono ?_
  rintro e w3 ⟨pb, rfl, hP3, hB3⟩
  have hB3' := hB3
  have c0 := below_at hB3 c0 hol
  have c1 := below_at hB3 c1 hol
  have c2 := below_at hB3 c2 hol
  have c3 := below_at hB3 c3 hol
  have c4 := below_at hB3 c4 hol
  have c5 := below_at hB3 c5 hol
  have c6 := below_at hB3 c6 hol
  have c7 := below_at hB3 c7 hol
  have c8 := below_at hB3 c8 hol
  have c9 := below_at hB3 c9 hol
  have c10 := below_at hB3 c10 hol
  have c11 := below_at hB3 c11 hol
  have hol := Nat.lt_of_lt_of_le hol hB3.size
  have HB3 := Lib.hid (HB2.out.trans (hB3.mono HB2.out.size))
  have hz3 := hB3.size
  clear hB3 hB3'
  clear hgd
  go_wp2_with fail
  have hoW : w.heap.size < w2.heap.size := Nat.lt_of_lt_of_le HL1.out HL2.out
  refine (rpNum1 w3 w2.heap.size pb [] 9 (by decide) hP3 (by simp) hz3).mono ?_
  rintro e w4 ⟨rfl, hP4, hB4⟩
  have c0 := below_at hB4 c0 hoW
  have c1 := below_at hB4 c1 hoW
  have c2 := below_at hB4 c2 hoW
  have c3 := below_at hB4 c3 hoW
  have c4 := below_at hB4 c4 hoW
  have c5 := below_at hB4 c5 hoW
  have c6 := below_at hB4 c6 hoW
  have c7 := below_at hB4 c7 hoW
  have c8 := below_at hB4 c8 hoW
  have c9 := below_at hB4 c9 hoW
  have c10 := below_at hB4 c10 hoW
  have c11 := below_at hB4 c11 hoW
  have HB4 := Lib.hid (HB3.out.trans (hB4.mono HB2.out.size))
  have hz4 : w2.heap.size ≤ w4.heap.size := Nat.le_trans hz3 hB4.size
  clear hB4 hP3
  go_wp2_with fail
  refine (rpNum1 w4 w2.heap.size pb ([] ++ putB 9 1) c (by omega) hP4 (by simp [putB_length]) hz4).mono ?_
  rintro e w5 ⟨rfl, hP5, hB5⟩
  have c0 := below_at hB5 c0 hoW
  have c1 := below_at hB5 c1 hoW
  have c2 := below_at hB5 c2 hoW
  have c3 := below_at hB5 c3 hoW
  have c4 := below_at hB5 c4 hoW
  have c5 := below_at hB5 c5 hoW
  have c6 := below_at hB5 c6 hoW
  have c7 := below_at hB5 c7 hoW
  have c8 := below_at hB5 c8 hoW
  have c9 := below_at hB5 c9 hoW
  have c10 := below_at hB5 c10 hoW
  have c11 := below_at hB5 c11 hoW
  have HB5 := Lib.hid (HB4.out.trans (hB5.mono HB2.out.size))
  have hz5 : w2.heap.size ≤ w5.heap.size := Nat.le_trans hz4 hB5.size
  clear hB5 hP4
  go_wp2_with fail
  refine (rpNum4 w5 w2.heap.size pb ([] ++ putB 9 1 ++ putB c 1) s (by omega) hP5 (by simp [putB_length]) hz5).mono ?_
  rintro e w6 ⟨rfl, hP6, hB6⟩
  have c0 := below_at hB6 c0 hoW
  have c1 := below_at hB6 c1 hoW
  have c2 := below_at hB6 c2 hoW
  have c3 := below_at hB6 c3 hoW
  have c4 := below_at hB6 c4 hoW
  have c5 := below_at hB6 c5 hoW
  have c6 := below_at hB6 c6 hoW
  have c7 := below_at hB6 c7 hoW
  have c8 := below_at hB6 c8 hoW
  have c9 := below_at hB6 c9 hoW
  have c10 := below_at hB6 c10 hoW
  have c11 := below_at hB6 c11 hoW
  have HB6 := Lib.hid (HB5.out.trans (hB6.mono HB2.out.size))
  have hz6 : w2.heap.size ≤ w6.heap.size := Nat.le_trans hz5 hB6.size
  clear hB6 hP5
  go_wp2_with fail
  refine (rpNum4 w6 w2.heap.size pb ([] ++ putB 9 1 ++ putB c 1 ++ putB s 4) h (by omega) hP6 (by simp [putB_length]; try omega) hz6).mono ?_
  rintro e w7 ⟨rfl, hP7, hB7⟩
  have c0 := below_at hB7 c0 hoW
  have c1 := below_at hB7 c1 hoW
  have c2 := below_at hB7 c2 hoW
  have c3 := below_at hB7 c3 hoW
  have c4 := below_at hB7 c4 hoW
  have c5 := below_at hB7 c5 hoW
  have c6 := below_at hB7 c6 hoW
  have c7 := below_at hB7 c7 hoW
  have c8 := below_at hB7 c8 hoW
  have c9 := below_at hB7 c9 hoW
  have c10 := below_at hB7 c10 hoW
  have c11 := below_at hB7 c11 hoW
  have HB7 := Lib.hid (HB6.out.trans (hB7.mono HB2.out.size))
  have hz7 : w2.heap.size ≤ w7.heap.size := Nat.le_trans hz6 hB7.size
  clear hB7 hP6
  go_wp2_with fail
  have hdn := rpDone_ok w7 w2.heap.size pb ([] ++ putB 9 1 ++ putB c 1 ++ putB s 4 ++ putB h 4) hP7 (by simp [putB_length]; try omega)
  refine hdn.mono ?_
  rintro e wz ⟨rfl, hBz⟩
  have HBz := Lib.hid (HB7.out.trans (hBz.mono HB7.out.size))
  clear hBz hdn
  go_wp2_with fail
  go_ret2
  exact ⟨([] ++ putB 9 1 ++ putB c 1 ++ putB s 4 ++ putB h 4), 0, rfl, HBz.out⟩
set_option maxRecDepth 100000 in
set_option maxHeartbeats 8000000 in
theorem encG10 (w : World) (c s : Nat) (p q : Nm) (xz _xh _xo : Int) (_xt : ByteArray) (xi xn : Int) (mp : Option Addr) (ml mc : Nat) (h o : Nat) (d : Nm) (hc : c ≤ 7) (hs : 1 ≤ s ∧ s ≤ 2147483647) (hh : h ≤ 16383) (ho : o ≤ 8192) (hd : d.length ≤ 1024) (hgd : ∀ W, Below w.heap.size w W → Calls Tryz.prog 95 #[.agg #[.int .i64 c, .int .i64 s, .int .i64 10, .string (bs p), .string (bs q), .int .i64 xz, .int .i64 h, .int .i64 o, .string (bs d), .int .i64 xi, .int .i64 xn, .slice mp ml mc]] W (BoolB W true)) :
    Calls Tryz.prog 54 #[.agg #[.int .i64 c, .int .i64 s, .int .i64 10, .string (bs p), .string (bs q), .int .i64 xz, .int .i64 h, .int .i64 o, .string (bs d), .int .i64 xi, .int .i64 xn, .slice mp ml mc]] w (EncAny w) := by
  obtain ⟨W1, hW1⟩ : ∃ W1, W1 = w.alloc (.cells #[.int .i64 c, .int .i64 s, .int .i64 10, .string (bs p), .string (bs q), .int .i64 xz, .int .i64 h, .int .i64 o, .string (bs d), .int .i64 xi, .int .i64 xn, .slice mp ml mc] 41) := ⟨_, rfl⟩
  have hB1 : Below w.heap.size w W1 := by rw [hW1]; exact belC (Below.refl _ _)
  have c0 : W1.cell? ⟨w.heap.size, 0, none⟩ = some (.int .i64 c) := by rw [hW1]; go_simp
  have c1 : W1.cell? ⟨w.heap.size, 1, none⟩ = some (.int .i64 s) := by rw [hW1]; go_simp
  have c2 : W1.cell? ⟨w.heap.size, 2, none⟩ = some (.int .i64 10) := by rw [hW1]; go_simp
  have c3 : W1.cell? ⟨w.heap.size, 3, none⟩ = some (.string (bs p)) := by rw [hW1]; go_simp
  have c4 : W1.cell? ⟨w.heap.size, 4, none⟩ = some (.string (bs q)) := by rw [hW1]; go_simp
  have c5 : W1.cell? ⟨w.heap.size, 5, none⟩ = some (.int .i64 xz) := by rw [hW1]; go_simp
  have c6 : W1.cell? ⟨w.heap.size, 6, none⟩ = some (.int .i64 h) := by rw [hW1]; go_simp
  have c7 : W1.cell? ⟨w.heap.size, 7, none⟩ = some (.int .i64 o) := by rw [hW1]; go_simp
  have c8 : W1.cell? ⟨w.heap.size, 8, none⟩ = some (.string (bs d)) := by rw [hW1]; go_simp
  have c9 : W1.cell? ⟨w.heap.size, 9, none⟩ = some (.int .i64 xi) := by rw [hW1]; go_simp
  have c10 : W1.cell? ⟨w.heap.size, 10, none⟩ = some (.int .i64 xn) := by rw [hW1]; go_simp
  have c11 : W1.cell? ⟨w.heap.size, 11, none⟩ = some (.slice mp ml mc) := by rw [hW1]; go_simp
  have hol := cell_lt c0
  have HW1 := Lib.hid hW1
  have HB1 := Lib.hid hB1
  have HL1 : Hid (w.heap.size < W1.heap.size) := Lib.hid hol
  clear hW1 hB1
  go_enter Tryz.func54, Tryz.ntmps54
  go_wp2_with fail
  rw [← HW1.out]
  refine (hgd _ HB1.out).mono ?_
  rintro e w2 ⟨rfl, hB2⟩
  have c0 := below_at hB2 c0 hol
  have c1 := below_at hB2 c1 hol
  have c2 := below_at hB2 c2 hol
  have c3 := below_at hB2 c3 hol
  have c4 := below_at hB2 c4 hol
  have c5 := below_at hB2 c5 hol
  have c6 := below_at hB2 c6 hol
  have c7 := below_at hB2 c7 hol
  have c8 := below_at hB2 c8 hol
  have c9 := below_at hB2 c9 hol
  have c10 := below_at hB2 c10 hol
  have c11 := below_at hB2 c11 hol
  have hol := cell_lt c0
  have HB2 := Lib.hid (HB1.out.trans (hB2.mono HB1.out.size))
  have HL2 : Hid (W1.heap.size ≤ w2.heap.size) := Lib.hid hB2.size
  clear hB2
  go_wp2_with fail
  refine (rpNew_any w2).mono ?_
  rintro e w3 ⟨pb, rfl, hP3, hB3⟩
  have hB3' := hB3
  have c0 := below_at hB3 c0 hol
  have c1 := below_at hB3 c1 hol
  have c2 := below_at hB3 c2 hol
  have c3 := below_at hB3 c3 hol
  have c4 := below_at hB3 c4 hol
  have c5 := below_at hB3 c5 hol
  have c6 := below_at hB3 c6 hol
  have c7 := below_at hB3 c7 hol
  have c8 := below_at hB3 c8 hol
  have c9 := below_at hB3 c9 hol
  have c10 := below_at hB3 c10 hol
  have c11 := below_at hB3 c11 hol
  have hol := Nat.lt_of_lt_of_le hol hB3.size
  have HB3 := Lib.hid (HB2.out.trans (hB3.mono HB2.out.size))
  have hz3 := hB3.size
  clear hB3 hB3'
  clear hgd
  go_wp2_with fail
  have hoW : w.heap.size < w2.heap.size := Nat.lt_of_lt_of_le HL1.out HL2.out
  refine (rpNum1 w3 w2.heap.size pb [] 10 (by decide) hP3 (by simp) hz3).mono ?_
  rintro e w4 ⟨rfl, hP4, hB4⟩
  have c0 := below_at hB4 c0 hoW
  have c1 := below_at hB4 c1 hoW
  have c2 := below_at hB4 c2 hoW
  have c3 := below_at hB4 c3 hoW
  have c4 := below_at hB4 c4 hoW
  have c5 := below_at hB4 c5 hoW
  have c6 := below_at hB4 c6 hoW
  have c7 := below_at hB4 c7 hoW
  have c8 := below_at hB4 c8 hoW
  have c9 := below_at hB4 c9 hoW
  have c10 := below_at hB4 c10 hoW
  have c11 := below_at hB4 c11 hoW
  have HB4 := Lib.hid (HB3.out.trans (hB4.mono HB2.out.size))
  have hz4 : w2.heap.size ≤ w4.heap.size := Nat.le_trans hz3 hB4.size
  clear hB4 hP3
  go_wp2_with fail
  refine (rpNum1 w4 w2.heap.size pb ([] ++ putB 10 1) c (by omega) hP4 (by simp [putB_length]) hz4).mono ?_
  rintro e w5 ⟨rfl, hP5, hB5⟩
  have c0 := below_at hB5 c0 hoW
  have c1 := below_at hB5 c1 hoW
  have c2 := below_at hB5 c2 hoW
  have c3 := below_at hB5 c3 hoW
  have c4 := below_at hB5 c4 hoW
  have c5 := below_at hB5 c5 hoW
  have c6 := below_at hB5 c6 hoW
  have c7 := below_at hB5 c7 hoW
  have c8 := below_at hB5 c8 hoW
  have c9 := below_at hB5 c9 hoW
  have c10 := below_at hB5 c10 hoW
  have c11 := below_at hB5 c11 hoW
  have HB5 := Lib.hid (HB4.out.trans (hB5.mono HB2.out.size))
  have hz5 : w2.heap.size ≤ w5.heap.size := Nat.le_trans hz4 hB5.size
  clear hB5 hP4
  go_wp2_with fail
  refine (rpNum4 w5 w2.heap.size pb ([] ++ putB 10 1 ++ putB c 1) s (by omega) hP5 (by simp [putB_length]) hz5).mono ?_
  rintro e w6 ⟨rfl, hP6, hB6⟩
  have c0 := below_at hB6 c0 hoW
  have c1 := below_at hB6 c1 hoW
  have c2 := below_at hB6 c2 hoW
  have c3 := below_at hB6 c3 hoW
  have c4 := below_at hB6 c4 hoW
  have c5 := below_at hB6 c5 hoW
  have c6 := below_at hB6 c6 hoW
  have c7 := below_at hB6 c7 hoW
  have c8 := below_at hB6 c8 hoW
  have c9 := below_at hB6 c9 hoW
  have c10 := below_at hB6 c10 hoW
  have c11 := below_at hB6 c11 hoW
  have HB6 := Lib.hid (HB5.out.trans (hB6.mono HB2.out.size))
  have hz6 : w2.heap.size ≤ w6.heap.size := Nat.le_trans hz5 hB6.size
  clear hB6 hP5
  go_wp2_with fail
  refine (rpNum4 w6 w2.heap.size pb ([] ++ putB 10 1 ++ putB c 1 ++ putB s 4) h (by omega) hP6 (by simp [putB_length]; try omega) hz6).mono ?_
  rintro e w7 ⟨rfl, hP7, hB7⟩
  have c0 := below_at hB7 c0 hoW
  have c1 := below_at hB7 c1 hoW
  have c2 := below_at hB7 c2 hoW
  have c3 := below_at hB7 c3 hoW
  have c4 := below_at hB7 c4 hoW
  have c5 := below_at hB7 c5 hoW
  have c6 := below_at hB7 c6 hoW
  have c7 := below_at hB7 c7 hoW
  have c8 := below_at hB7 c8 hoW
  have c9 := below_at hB7 c9 hoW
  have c10 := below_at hB7 c10 hoW
  have c11 := below_at hB7 c11 hoW
  have HB7 := Lib.hid (HB6.out.trans (hB7.mono HB2.out.size))
  have hz7 : w2.heap.size ≤ w7.heap.size := Nat.le_trans hz6 hB7.size
  clear hB7 hP6
  go_wp2_with fail
  refine (rpNum4 w7 w2.heap.size pb ([] ++ putB 10 1 ++ putB c 1 ++ putB s 4 ++ putB h 4) o (by omega) hP7 (by simp [putB_length]; try omega) hz7).mono ?_
  rintro e w8 ⟨rfl, hP8, hB8⟩
  have c0 := below_at hB8 c0 hoW
  have c1 := below_at hB8 c1 hoW
  have c2 := below_at hB8 c2 hoW
  have c3 := below_at hB8 c3 hoW
  have c4 := below_at hB8 c4 hoW
  have c5 := below_at hB8 c5 hoW
  have c6 := below_at hB8 c6 hoW
  have c7 := below_at hB8 c7 hoW
  have c8 := below_at hB8 c8 hoW
  have c9 := below_at hB8 c9 hoW
  have c10 := below_at hB8 c10 hoW
  have c11 := below_at hB8 c11 hoW
  have HB8 := Lib.hid (HB7.out.trans (hB8.mono HB2.out.size))
  have hz8 : w2.heap.size ≤ w8.heap.size := Nat.le_trans hz7 hB8.size
  clear hB8 hP7
  go_wp2_with fail
  refine (rpText_any w8 w2.heap.size pb ([] ++ putB 10 1 ++ putB c 1 ++ putB s 4 ++ putB h 4 ++ putB o 4) d (by omega) hP8 (by simp [putB_length]; try omega) hz8).mono ?_
  rintro e w9 ⟨rfl, hP9, hB9⟩
  have c0 := below_at hB9 c0 hoW
  have c1 := below_at hB9 c1 hoW
  have c2 := below_at hB9 c2 hoW
  have c3 := below_at hB9 c3 hoW
  have c4 := below_at hB9 c4 hoW
  have c5 := below_at hB9 c5 hoW
  have c6 := below_at hB9 c6 hoW
  have c7 := below_at hB9 c7 hoW
  have c8 := below_at hB9 c8 hoW
  have c9 := below_at hB9 c9 hoW
  have c10 := below_at hB9 c10 hoW
  have c11 := below_at hB9 c11 hoW
  have HB9 := Lib.hid (HB8.out.trans (hB9.mono HB2.out.size))
  have hz9 : w2.heap.size ≤ w9.heap.size := Nat.le_trans hz8 hB9.size
  clear hB9 hP8
  go_wp2_with fail
  have hdn := rpDone_ok w9 w2.heap.size pb ([] ++ putB 10 1 ++ putB c 1 ++ putB s 4 ++ putB h 4 ++ putB o 4 ++ (putB d.length 2 ++ d)) hP9 (by simp [putB_length]; try omega)
  refine hdn.mono ?_
  rintro e wz ⟨rfl, hBz⟩
  have HBz := Lib.hid (HB9.out.trans (hBz.mono HB9.out.size))
  clear hBz hdn
  go_wp2_with fail
  go_ret2
  exact ⟨([] ++ putB 10 1 ++ putB c 1 ++ putB s 4 ++ putB h 4 ++ putB o 4 ++ (putB d.length 2 ++ d)), 0, rfl, HBz.out⟩
set_option maxRecDepth 100000 in
set_option maxHeartbeats 8000000 in
theorem encG11 (w : World) (c s : Nat) (p q : Nm) (xz xh xo : Int) (xt : ByteArray) (_xi xn : Int) (mp : Option Addr) (ml mc : Nat) (t : Nat) (hc : c ≤ 7) (hs : 1 ≤ s ∧ s ≤ 2147483647) (ht : t ≤ 1099511627776) (hgd : ∀ W, Below w.heap.size w W → Calls Tryz.prog 95 #[.agg #[.int .i64 c, .int .i64 s, .int .i64 11, .string (bs p), .string (bs q), .int .i64 xz, .int .i64 xh, .int .i64 xo, .string xt, .int .i64 t, .int .i64 xn, .slice mp ml mc]] W (BoolB W true)) :
    Calls Tryz.prog 54 #[.agg #[.int .i64 c, .int .i64 s, .int .i64 11, .string (bs p), .string (bs q), .int .i64 xz, .int .i64 xh, .int .i64 xo, .string xt, .int .i64 t, .int .i64 xn, .slice mp ml mc]] w (EncAny w) := by
  obtain ⟨W1, hW1⟩ : ∃ W1, W1 = w.alloc (.cells #[.int .i64 c, .int .i64 s, .int .i64 11, .string (bs p), .string (bs q), .int .i64 xz, .int .i64 xh, .int .i64 xo, .string xt, .int .i64 t, .int .i64 xn, .slice mp ml mc] 41) := ⟨_, rfl⟩
  have hB1 : Below w.heap.size w W1 := by rw [hW1]; exact belC (Below.refl _ _)
  have c0 : W1.cell? ⟨w.heap.size, 0, none⟩ = some (.int .i64 c) := by rw [hW1]; go_simp
  have c1 : W1.cell? ⟨w.heap.size, 1, none⟩ = some (.int .i64 s) := by rw [hW1]; go_simp
  have c2 : W1.cell? ⟨w.heap.size, 2, none⟩ = some (.int .i64 11) := by rw [hW1]; go_simp
  have c3 : W1.cell? ⟨w.heap.size, 3, none⟩ = some (.string (bs p)) := by rw [hW1]; go_simp
  have c4 : W1.cell? ⟨w.heap.size, 4, none⟩ = some (.string (bs q)) := by rw [hW1]; go_simp
  have c5 : W1.cell? ⟨w.heap.size, 5, none⟩ = some (.int .i64 xz) := by rw [hW1]; go_simp
  have c6 : W1.cell? ⟨w.heap.size, 6, none⟩ = some (.int .i64 xh) := by rw [hW1]; go_simp
  have c7 : W1.cell? ⟨w.heap.size, 7, none⟩ = some (.int .i64 xo) := by rw [hW1]; go_simp
  have c8 : W1.cell? ⟨w.heap.size, 8, none⟩ = some (.string xt) := by rw [hW1]; go_simp
  have c9 : W1.cell? ⟨w.heap.size, 9, none⟩ = some (.int .i64 t) := by rw [hW1]; go_simp
  have c10 : W1.cell? ⟨w.heap.size, 10, none⟩ = some (.int .i64 xn) := by rw [hW1]; go_simp
  have c11 : W1.cell? ⟨w.heap.size, 11, none⟩ = some (.slice mp ml mc) := by rw [hW1]; go_simp
  have hol := cell_lt c0
  have HW1 := Lib.hid hW1
  have HB1 := Lib.hid hB1
  have HL1 : Hid (w.heap.size < W1.heap.size) := Lib.hid hol
  clear hW1 hB1
  go_enter Tryz.func54, Tryz.ntmps54
  go_wp2_with fail
  rw [← HW1.out]
  refine (hgd _ HB1.out).mono ?_
  rintro e w2 ⟨rfl, hB2⟩
  have c0 := below_at hB2 c0 hol
  have c1 := below_at hB2 c1 hol
  have c2 := below_at hB2 c2 hol
  have c3 := below_at hB2 c3 hol
  have c4 := below_at hB2 c4 hol
  have c5 := below_at hB2 c5 hol
  have c6 := below_at hB2 c6 hol
  have c7 := below_at hB2 c7 hol
  have c8 := below_at hB2 c8 hol
  have c9 := below_at hB2 c9 hol
  have c10 := below_at hB2 c10 hol
  have c11 := below_at hB2 c11 hol
  have hol := cell_lt c0
  have HB2 := Lib.hid (HB1.out.trans (hB2.mono HB1.out.size))
  have HL2 : Hid (W1.heap.size ≤ w2.heap.size) := Lib.hid hB2.size
  clear hB2
  go_wp2_with fail
  refine (rpNew_any w2).mono ?_
  rintro e w3 ⟨pb, rfl, hP3, hB3⟩
  have hB3' := hB3
  have c0 := below_at hB3 c0 hol
  have c1 := below_at hB3 c1 hol
  have c2 := below_at hB3 c2 hol
  have c3 := below_at hB3 c3 hol
  have c4 := below_at hB3 c4 hol
  have c5 := below_at hB3 c5 hol
  have c6 := below_at hB3 c6 hol
  have c7 := below_at hB3 c7 hol
  have c8 := below_at hB3 c8 hol
  have c9 := below_at hB3 c9 hol
  have c10 := below_at hB3 c10 hol
  have c11 := below_at hB3 c11 hol
  have hol := Nat.lt_of_lt_of_le hol hB3.size
  have HB3 := Lib.hid (HB2.out.trans (hB3.mono HB2.out.size))
  have hz3 := hB3.size
  clear hB3 hB3'
  clear hgd
  go_wp2_with fail
  have hoW : w.heap.size < w2.heap.size := Nat.lt_of_lt_of_le HL1.out HL2.out
  refine (rpNum1 w3 w2.heap.size pb [] 11 (by decide) hP3 (by simp) hz3).mono ?_
  rintro e w4 ⟨rfl, hP4, hB4⟩
  have c0 := below_at hB4 c0 hoW
  have c1 := below_at hB4 c1 hoW
  have c2 := below_at hB4 c2 hoW
  have c3 := below_at hB4 c3 hoW
  have c4 := below_at hB4 c4 hoW
  have c5 := below_at hB4 c5 hoW
  have c6 := below_at hB4 c6 hoW
  have c7 := below_at hB4 c7 hoW
  have c8 := below_at hB4 c8 hoW
  have c9 := below_at hB4 c9 hoW
  have c10 := below_at hB4 c10 hoW
  have c11 := below_at hB4 c11 hoW
  have HB4 := Lib.hid (HB3.out.trans (hB4.mono HB2.out.size))
  have hz4 : w2.heap.size ≤ w4.heap.size := Nat.le_trans hz3 hB4.size
  clear hB4 hP3
  go_wp2_with fail
  refine (rpNum1 w4 w2.heap.size pb ([] ++ putB 11 1) c (by omega) hP4 (by simp [putB_length]) hz4).mono ?_
  rintro e w5 ⟨rfl, hP5, hB5⟩
  have c0 := below_at hB5 c0 hoW
  have c1 := below_at hB5 c1 hoW
  have c2 := below_at hB5 c2 hoW
  have c3 := below_at hB5 c3 hoW
  have c4 := below_at hB5 c4 hoW
  have c5 := below_at hB5 c5 hoW
  have c6 := below_at hB5 c6 hoW
  have c7 := below_at hB5 c7 hoW
  have c8 := below_at hB5 c8 hoW
  have c9 := below_at hB5 c9 hoW
  have c10 := below_at hB5 c10 hoW
  have c11 := below_at hB5 c11 hoW
  have HB5 := Lib.hid (HB4.out.trans (hB5.mono HB2.out.size))
  have hz5 : w2.heap.size ≤ w5.heap.size := Nat.le_trans hz4 hB5.size
  clear hB5 hP4
  go_wp2_with fail
  refine (rpNum4 w5 w2.heap.size pb ([] ++ putB 11 1 ++ putB c 1) s (by omega) hP5 (by simp [putB_length]) hz5).mono ?_
  rintro e w6 ⟨rfl, hP6, hB6⟩
  have c0 := below_at hB6 c0 hoW
  have c1 := below_at hB6 c1 hoW
  have c2 := below_at hB6 c2 hoW
  have c3 := below_at hB6 c3 hoW
  have c4 := below_at hB6 c4 hoW
  have c5 := below_at hB6 c5 hoW
  have c6 := below_at hB6 c6 hoW
  have c7 := below_at hB6 c7 hoW
  have c8 := below_at hB6 c8 hoW
  have c9 := below_at hB6 c9 hoW
  have c10 := below_at hB6 c10 hoW
  have c11 := below_at hB6 c11 hoW
  have HB6 := Lib.hid (HB5.out.trans (hB6.mono HB2.out.size))
  have hz6 : w2.heap.size ≤ w6.heap.size := Nat.le_trans hz5 hB6.size
  clear hB6 hP5
  go_wp2_with fail
  refine (rpNum8 w6 w2.heap.size pb ([] ++ putB 11 1 ++ putB c 1 ++ putB s 4) t (by omega) hP6 (by simp [putB_length]; try omega) hz6).mono ?_
  rintro e w7 ⟨rfl, hP7, hB7⟩
  have c0 := below_at hB7 c0 hoW
  have c1 := below_at hB7 c1 hoW
  have c2 := below_at hB7 c2 hoW
  have c3 := below_at hB7 c3 hoW
  have c4 := below_at hB7 c4 hoW
  have c5 := below_at hB7 c5 hoW
  have c6 := below_at hB7 c6 hoW
  have c7 := below_at hB7 c7 hoW
  have c8 := below_at hB7 c8 hoW
  have c9 := below_at hB7 c9 hoW
  have c10 := below_at hB7 c10 hoW
  have c11 := below_at hB7 c11 hoW
  have HB7 := Lib.hid (HB6.out.trans (hB7.mono HB2.out.size))
  have hz7 : w2.heap.size ≤ w7.heap.size := Nat.le_trans hz6 hB7.size
  clear hB7 hP6
  go_wp2_with fail
  have hdn := rpDone_ok w7 w2.heap.size pb ([] ++ putB 11 1 ++ putB c 1 ++ putB s 4 ++ putB t 8) hP7 (by simp [putB_length]; try omega)
  refine hdn.mono ?_
  rintro e wz ⟨rfl, hBz⟩
  have HBz := Lib.hid (HB7.out.trans (hBz.mono HB7.out.size))
  clear hBz hdn
  go_wp2_with fail
  go_ret2
  exact ⟨([] ++ putB 11 1 ++ putB c 1 ++ putB s 4 ++ putB t 8), 0, rfl, HBz.out⟩
set_option maxRecDepth 100000 in
set_option maxHeartbeats 8000000 in
theorem encG12 (w : World) (c s : Nat) (p q : Nm) (xz xh xo : Int) (xt : ByteArray) (_xi xn : Int) (mp : Option Addr) (ml mc : Nat) (t : Nat) (hc : c ≤ 7) (hs : 1 ≤ s ∧ s ≤ 2147483647) (ht : t ≤ 1099511627776) (hgd : ∀ W, Below w.heap.size w W → Calls Tryz.prog 95 #[.agg #[.int .i64 c, .int .i64 s, .int .i64 12, .string (bs p), .string (bs q), .int .i64 xz, .int .i64 xh, .int .i64 xo, .string xt, .int .i64 t, .int .i64 xn, .slice mp ml mc]] W (BoolB W true)) :
    Calls Tryz.prog 54 #[.agg #[.int .i64 c, .int .i64 s, .int .i64 12, .string (bs p), .string (bs q), .int .i64 xz, .int .i64 xh, .int .i64 xo, .string xt, .int .i64 t, .int .i64 xn, .slice mp ml mc]] w (EncAny w) := by
  obtain ⟨W1, hW1⟩ : ∃ W1, W1 = w.alloc (.cells #[.int .i64 c, .int .i64 s, .int .i64 12, .string (bs p), .string (bs q), .int .i64 xz, .int .i64 xh, .int .i64 xo, .string xt, .int .i64 t, .int .i64 xn, .slice mp ml mc] 41) := ⟨_, rfl⟩
  have hB1 : Below w.heap.size w W1 := by rw [hW1]; exact belC (Below.refl _ _)
  have c0 : W1.cell? ⟨w.heap.size, 0, none⟩ = some (.int .i64 c) := by rw [hW1]; go_simp
  have c1 : W1.cell? ⟨w.heap.size, 1, none⟩ = some (.int .i64 s) := by rw [hW1]; go_simp
  have c2 : W1.cell? ⟨w.heap.size, 2, none⟩ = some (.int .i64 12) := by rw [hW1]; go_simp
  have c3 : W1.cell? ⟨w.heap.size, 3, none⟩ = some (.string (bs p)) := by rw [hW1]; go_simp
  have c4 : W1.cell? ⟨w.heap.size, 4, none⟩ = some (.string (bs q)) := by rw [hW1]; go_simp
  have c5 : W1.cell? ⟨w.heap.size, 5, none⟩ = some (.int .i64 xz) := by rw [hW1]; go_simp
  have c6 : W1.cell? ⟨w.heap.size, 6, none⟩ = some (.int .i64 xh) := by rw [hW1]; go_simp
  have c7 : W1.cell? ⟨w.heap.size, 7, none⟩ = some (.int .i64 xo) := by rw [hW1]; go_simp
  have c8 : W1.cell? ⟨w.heap.size, 8, none⟩ = some (.string xt) := by rw [hW1]; go_simp
  have c9 : W1.cell? ⟨w.heap.size, 9, none⟩ = some (.int .i64 t) := by rw [hW1]; go_simp
  have c10 : W1.cell? ⟨w.heap.size, 10, none⟩ = some (.int .i64 xn) := by rw [hW1]; go_simp
  have c11 : W1.cell? ⟨w.heap.size, 11, none⟩ = some (.slice mp ml mc) := by rw [hW1]; go_simp
  have hol := cell_lt c0
  have HW1 := Lib.hid hW1
  have HB1 := Lib.hid hB1
  have HL1 : Hid (w.heap.size < W1.heap.size) := Lib.hid hol
  clear hW1 hB1
  go_enter Tryz.func54, Tryz.ntmps54
  go_wp2_with fail
  rw [← HW1.out]
  refine (hgd _ HB1.out).mono ?_
  rintro e w2 ⟨rfl, hB2⟩
  have c0 := below_at hB2 c0 hol
  have c1 := below_at hB2 c1 hol
  have c2 := below_at hB2 c2 hol
  have c3 := below_at hB2 c3 hol
  have c4 := below_at hB2 c4 hol
  have c5 := below_at hB2 c5 hol
  have c6 := below_at hB2 c6 hol
  have c7 := below_at hB2 c7 hol
  have c8 := below_at hB2 c8 hol
  have c9 := below_at hB2 c9 hol
  have c10 := below_at hB2 c10 hol
  have c11 := below_at hB2 c11 hol
  have hol := cell_lt c0
  have HB2 := Lib.hid (HB1.out.trans (hB2.mono HB1.out.size))
  have HL2 : Hid (W1.heap.size ≤ w2.heap.size) := Lib.hid hB2.size
  clear hB2
  go_wp2_with fail
  refine (rpNew_any w2).mono ?_
  rintro e w3 ⟨pb, rfl, hP3, hB3⟩
  have hB3' := hB3
  have c0 := below_at hB3 c0 hol
  have c1 := below_at hB3 c1 hol
  have c2 := below_at hB3 c2 hol
  have c3 := below_at hB3 c3 hol
  have c4 := below_at hB3 c4 hol
  have c5 := below_at hB3 c5 hol
  have c6 := below_at hB3 c6 hol
  have c7 := below_at hB3 c7 hol
  have c8 := below_at hB3 c8 hol
  have c9 := below_at hB3 c9 hol
  have c10 := below_at hB3 c10 hol
  have c11 := below_at hB3 c11 hol
  have hol := Nat.lt_of_lt_of_le hol hB3.size
  have HB3 := Lib.hid (HB2.out.trans (hB3.mono HB2.out.size))
  have hz3 := hB3.size
  clear hB3 hB3'
  clear hgd
  go_wp2_with fail
  have hoW : w.heap.size < w2.heap.size := Nat.lt_of_lt_of_le HL1.out HL2.out
  refine (rpNum1 w3 w2.heap.size pb [] 12 (by decide) hP3 (by simp) hz3).mono ?_
  rintro e w4 ⟨rfl, hP4, hB4⟩
  have c0 := below_at hB4 c0 hoW
  have c1 := below_at hB4 c1 hoW
  have c2 := below_at hB4 c2 hoW
  have c3 := below_at hB4 c3 hoW
  have c4 := below_at hB4 c4 hoW
  have c5 := below_at hB4 c5 hoW
  have c6 := below_at hB4 c6 hoW
  have c7 := below_at hB4 c7 hoW
  have c8 := below_at hB4 c8 hoW
  have c9 := below_at hB4 c9 hoW
  have c10 := below_at hB4 c10 hoW
  have c11 := below_at hB4 c11 hoW
  have HB4 := Lib.hid (HB3.out.trans (hB4.mono HB2.out.size))
  have hz4 : w2.heap.size ≤ w4.heap.size := Nat.le_trans hz3 hB4.size
  clear hB4 hP3
  go_wp2_with fail
  refine (rpNum1 w4 w2.heap.size pb ([] ++ putB 12 1) c (by omega) hP4 (by simp [putB_length]) hz4).mono ?_
  rintro e w5 ⟨rfl, hP5, hB5⟩
  have c0 := below_at hB5 c0 hoW
  have c1 := below_at hB5 c1 hoW
  have c2 := below_at hB5 c2 hoW
  have c3 := below_at hB5 c3 hoW
  have c4 := below_at hB5 c4 hoW
  have c5 := below_at hB5 c5 hoW
  have c6 := below_at hB5 c6 hoW
  have c7 := below_at hB5 c7 hoW
  have c8 := below_at hB5 c8 hoW
  have c9 := below_at hB5 c9 hoW
  have c10 := below_at hB5 c10 hoW
  have c11 := below_at hB5 c11 hoW
  have HB5 := Lib.hid (HB4.out.trans (hB5.mono HB2.out.size))
  have hz5 : w2.heap.size ≤ w5.heap.size := Nat.le_trans hz4 hB5.size
  clear hB5 hP4
  go_wp2_with fail
  refine (rpNum4 w5 w2.heap.size pb ([] ++ putB 12 1 ++ putB c 1) s (by omega) hP5 (by simp [putB_length]) hz5).mono ?_
  rintro e w6 ⟨rfl, hP6, hB6⟩
  have c0 := below_at hB6 c0 hoW
  have c1 := below_at hB6 c1 hoW
  have c2 := below_at hB6 c2 hoW
  have c3 := below_at hB6 c3 hoW
  have c4 := below_at hB6 c4 hoW
  have c5 := below_at hB6 c5 hoW
  have c6 := below_at hB6 c6 hoW
  have c7 := below_at hB6 c7 hoW
  have c8 := below_at hB6 c8 hoW
  have c9 := below_at hB6 c9 hoW
  have c10 := below_at hB6 c10 hoW
  have c11 := below_at hB6 c11 hoW
  have HB6 := Lib.hid (HB5.out.trans (hB6.mono HB2.out.size))
  have hz6 : w2.heap.size ≤ w6.heap.size := Nat.le_trans hz5 hB6.size
  clear hB6 hP5
  go_wp2_with fail
  refine (rpNum8 w6 w2.heap.size pb ([] ++ putB 12 1 ++ putB c 1 ++ putB s 4) t (by omega) hP6 (by simp [putB_length]; try omega) hz6).mono ?_
  rintro e w7 ⟨rfl, hP7, hB7⟩
  have c0 := below_at hB7 c0 hoW
  have c1 := below_at hB7 c1 hoW
  have c2 := below_at hB7 c2 hoW
  have c3 := below_at hB7 c3 hoW
  have c4 := below_at hB7 c4 hoW
  have c5 := below_at hB7 c5 hoW
  have c6 := below_at hB7 c6 hoW
  have c7 := below_at hB7 c7 hoW
  have c8 := below_at hB7 c8 hoW
  have c9 := below_at hB7 c9 hoW
  have c10 := below_at hB7 c10 hoW
  have c11 := below_at hB7 c11 hoW
  have HB7 := Lib.hid (HB6.out.trans (hB7.mono HB2.out.size))
  have hz7 : w2.heap.size ≤ w7.heap.size := Nat.le_trans hz6 hB7.size
  clear hB7 hP6
  go_wp2_with fail
  have hdn := rpDone_ok w7 w2.heap.size pb ([] ++ putB 12 1 ++ putB c 1 ++ putB s 4 ++ putB t 8) hP7 (by simp [putB_length]; try omega)
  refine hdn.mono ?_
  rintro e wz ⟨rfl, hBz⟩
  have HBz := Lib.hid (HB7.out.trans (hBz.mono HB7.out.size))
  clear hBz hdn
  go_wp2_with fail
  go_ret2
  exact ⟨([] ++ putB 12 1 ++ putB c 1 ++ putB s 4 ++ putB t 8), 0, rfl, HBz.out⟩
set_option maxRecDepth 100000 in
set_option maxHeartbeats 8000000 in
theorem encG14 (w : World) (c s : Nat) (p q : Nm) (_xz xh _xo : Int) (_xt : ByteArray) (xi xn : Int) (mp : Option Addr) (ml mc : Nat) (z o : Nat) (d : Nm) (hc : c ≤ 7) (hs : 1 ≤ s ∧ s ≤ 2147483647) (hz0 : z ≤ 65536) (ho : o ≤ 65536) (hd : d.length ≤ 1024) (hgd : ∀ W, Below w.heap.size w W → Calls Tryz.prog 95 #[.agg #[.int .i64 c, .int .i64 s, .int .i64 14, .string (bs p), .string (bs q), .int .i64 z, .int .i64 xh, .int .i64 o, .string (bs d), .int .i64 xi, .int .i64 xn, .slice mp ml mc]] W (BoolB W true)) :
    Calls Tryz.prog 54 #[.agg #[.int .i64 c, .int .i64 s, .int .i64 14, .string (bs p), .string (bs q), .int .i64 z, .int .i64 xh, .int .i64 o, .string (bs d), .int .i64 xi, .int .i64 xn, .slice mp ml mc]] w (EncAny w) := by
  obtain ⟨W1, hW1⟩ : ∃ W1, W1 = w.alloc (.cells #[.int .i64 c, .int .i64 s, .int .i64 14, .string (bs p), .string (bs q), .int .i64 z, .int .i64 xh, .int .i64 o, .string (bs d), .int .i64 xi, .int .i64 xn, .slice mp ml mc] 41) := ⟨_, rfl⟩
  have hB1 : Below w.heap.size w W1 := by rw [hW1]; exact belC (Below.refl _ _)
  have c0 : W1.cell? ⟨w.heap.size, 0, none⟩ = some (.int .i64 c) := by rw [hW1]; go_simp
  have c1 : W1.cell? ⟨w.heap.size, 1, none⟩ = some (.int .i64 s) := by rw [hW1]; go_simp
  have c2 : W1.cell? ⟨w.heap.size, 2, none⟩ = some (.int .i64 14) := by rw [hW1]; go_simp
  have c3 : W1.cell? ⟨w.heap.size, 3, none⟩ = some (.string (bs p)) := by rw [hW1]; go_simp
  have c4 : W1.cell? ⟨w.heap.size, 4, none⟩ = some (.string (bs q)) := by rw [hW1]; go_simp
  have c5 : W1.cell? ⟨w.heap.size, 5, none⟩ = some (.int .i64 z) := by rw [hW1]; go_simp
  have c6 : W1.cell? ⟨w.heap.size, 6, none⟩ = some (.int .i64 xh) := by rw [hW1]; go_simp
  have c7 : W1.cell? ⟨w.heap.size, 7, none⟩ = some (.int .i64 o) := by rw [hW1]; go_simp
  have c8 : W1.cell? ⟨w.heap.size, 8, none⟩ = some (.string (bs d)) := by rw [hW1]; go_simp
  have c9 : W1.cell? ⟨w.heap.size, 9, none⟩ = some (.int .i64 xi) := by rw [hW1]; go_simp
  have c10 : W1.cell? ⟨w.heap.size, 10, none⟩ = some (.int .i64 xn) := by rw [hW1]; go_simp
  have c11 : W1.cell? ⟨w.heap.size, 11, none⟩ = some (.slice mp ml mc) := by rw [hW1]; go_simp
  have hol := cell_lt c0
  have HW1 := Lib.hid hW1
  have HB1 := Lib.hid hB1
  have HL1 : Hid (w.heap.size < W1.heap.size) := Lib.hid hol
  clear hW1 hB1
  go_enter Tryz.func54, Tryz.ntmps54
  go_wp2_with fail
  rw [← HW1.out]
  refine (hgd _ HB1.out).mono ?_
  rintro e w2 ⟨rfl, hB2⟩
  have c0 := below_at hB2 c0 hol
  have c1 := below_at hB2 c1 hol
  have c2 := below_at hB2 c2 hol
  have c3 := below_at hB2 c3 hol
  have c4 := below_at hB2 c4 hol
  have c5 := below_at hB2 c5 hol
  have c6 := below_at hB2 c6 hol
  have c7 := below_at hB2 c7 hol
  have c8 := below_at hB2 c8 hol
  have c9 := below_at hB2 c9 hol
  have c10 := below_at hB2 c10 hol
  have c11 := below_at hB2 c11 hol
  have hol := cell_lt c0
  have HB2 := Lib.hid (HB1.out.trans (hB2.mono HB1.out.size))
  have HL2 : Hid (W1.heap.size ≤ w2.heap.size) := Lib.hid hB2.size
  clear hB2
  go_wp2_with fail
  refine (rpNew_any w2).mono ?_
  rintro e w3 ⟨pb, rfl, hP3, hB3⟩
  have hB3' := hB3
  have c0 := below_at hB3 c0 hol
  have c1 := below_at hB3 c1 hol
  have c2 := below_at hB3 c2 hol
  have c3 := below_at hB3 c3 hol
  have c4 := below_at hB3 c4 hol
  have c5 := below_at hB3 c5 hol
  have c6 := below_at hB3 c6 hol
  have c7 := below_at hB3 c7 hol
  have c8 := below_at hB3 c8 hol
  have c9 := below_at hB3 c9 hol
  have c10 := below_at hB3 c10 hol
  have c11 := below_at hB3 c11 hol
  have hol := Nat.lt_of_lt_of_le hol hB3.size
  have HB3 := Lib.hid (HB2.out.trans (hB3.mono HB2.out.size))
  have hz3 := hB3.size
  clear hB3 hB3'
  clear hgd
  go_wp2_with fail
  have hoW : w.heap.size < w2.heap.size := Nat.lt_of_lt_of_le HL1.out HL2.out
  refine (rpNum1 w3 w2.heap.size pb [] 14 (by decide) hP3 (by simp) hz3).mono ?_
  rintro e w4 ⟨rfl, hP4, hB4⟩
  have c0 := below_at hB4 c0 hoW
  have c1 := below_at hB4 c1 hoW
  have c2 := below_at hB4 c2 hoW
  have c3 := below_at hB4 c3 hoW
  have c4 := below_at hB4 c4 hoW
  have c5 := below_at hB4 c5 hoW
  have c6 := below_at hB4 c6 hoW
  have c7 := below_at hB4 c7 hoW
  have c8 := below_at hB4 c8 hoW
  have c9 := below_at hB4 c9 hoW
  have c10 := below_at hB4 c10 hoW
  have c11 := below_at hB4 c11 hoW
  have HB4 := Lib.hid (HB3.out.trans (hB4.mono HB2.out.size))
  have hz4 : w2.heap.size ≤ w4.heap.size := Nat.le_trans hz3 hB4.size
  clear hB4 hP3
  go_wp2_with fail
  refine (rpNum1 w4 w2.heap.size pb ([] ++ putB 14 1) c (by omega) hP4 (by simp [putB_length]) hz4).mono ?_
  rintro e w5 ⟨rfl, hP5, hB5⟩
  have c0 := below_at hB5 c0 hoW
  have c1 := below_at hB5 c1 hoW
  have c2 := below_at hB5 c2 hoW
  have c3 := below_at hB5 c3 hoW
  have c4 := below_at hB5 c4 hoW
  have c5 := below_at hB5 c5 hoW
  have c6 := below_at hB5 c6 hoW
  have c7 := below_at hB5 c7 hoW
  have c8 := below_at hB5 c8 hoW
  have c9 := below_at hB5 c9 hoW
  have c10 := below_at hB5 c10 hoW
  have c11 := below_at hB5 c11 hoW
  have HB5 := Lib.hid (HB4.out.trans (hB5.mono HB2.out.size))
  have hz5 : w2.heap.size ≤ w5.heap.size := Nat.le_trans hz4 hB5.size
  clear hB5 hP4
  go_wp2_with fail
  refine (rpNum4 w5 w2.heap.size pb ([] ++ putB 14 1 ++ putB c 1) s (by omega) hP5 (by simp [putB_length]) hz5).mono ?_
  rintro e w6 ⟨rfl, hP6, hB6⟩
  have c0 := below_at hB6 c0 hoW
  have c1 := below_at hB6 c1 hoW
  have c2 := below_at hB6 c2 hoW
  have c3 := below_at hB6 c3 hoW
  have c4 := below_at hB6 c4 hoW
  have c5 := below_at hB6 c5 hoW
  have c6 := below_at hB6 c6 hoW
  have c7 := below_at hB6 c7 hoW
  have c8 := below_at hB6 c8 hoW
  have c9 := below_at hB6 c9 hoW
  have c10 := below_at hB6 c10 hoW
  have c11 := below_at hB6 c11 hoW
  have HB6 := Lib.hid (HB5.out.trans (hB6.mono HB2.out.size))
  have hz6 : w2.heap.size ≤ w6.heap.size := Nat.le_trans hz5 hB6.size
  clear hB6 hP5
  go_wp2_with fail
  refine (rpText_any w6 w2.heap.size pb ([] ++ putB 14 1 ++ putB c 1 ++ putB s 4) d (by omega) hP6 (by simp [putB_length]; try omega) hz6).mono ?_
  rintro e w7 ⟨rfl, hP7, hB7⟩
  have c0 := below_at hB7 c0 hoW
  have c1 := below_at hB7 c1 hoW
  have c2 := below_at hB7 c2 hoW
  have c3 := below_at hB7 c3 hoW
  have c4 := below_at hB7 c4 hoW
  have c5 := below_at hB7 c5 hoW
  have c6 := below_at hB7 c6 hoW
  have c7 := below_at hB7 c7 hoW
  have c8 := below_at hB7 c8 hoW
  have c9 := below_at hB7 c9 hoW
  have c10 := below_at hB7 c10 hoW
  have c11 := below_at hB7 c11 hoW
  have HB7 := Lib.hid (HB6.out.trans (hB7.mono HB2.out.size))
  have hz7 : w2.heap.size ≤ w7.heap.size := Nat.le_trans hz6 hB7.size
  clear hB7 hP6
  go_wp2_with fail
  refine (rpNum4 w7 w2.heap.size pb ([] ++ putB 14 1 ++ putB c 1 ++ putB s 4 ++ (putB d.length 2 ++ d)) z (by omega) hP7 (by simp [putB_length]; try omega) hz7).mono ?_
  rintro e w8 ⟨rfl, hP8, hB8⟩
  have c0 := below_at hB8 c0 hoW
  have c1 := below_at hB8 c1 hoW
  have c2 := below_at hB8 c2 hoW
  have c3 := below_at hB8 c3 hoW
  have c4 := below_at hB8 c4 hoW
  have c5 := below_at hB8 c5 hoW
  have c6 := below_at hB8 c6 hoW
  have c7 := below_at hB8 c7 hoW
  have c8 := below_at hB8 c8 hoW
  have c9 := below_at hB8 c9 hoW
  have c10 := below_at hB8 c10 hoW
  have c11 := below_at hB8 c11 hoW
  have HB8 := Lib.hid (HB7.out.trans (hB8.mono HB2.out.size))
  have hz8 : w2.heap.size ≤ w8.heap.size := Nat.le_trans hz7 hB8.size
  clear hB8 hP7
  go_wp2_with fail
  refine (rpNum4 w8 w2.heap.size pb ([] ++ putB 14 1 ++ putB c 1 ++ putB s 4 ++ (putB d.length 2 ++ d) ++ putB z 4) o (by omega) hP8 (by simp [putB_length]; try omega) hz8).mono ?_
  rintro e w9 ⟨rfl, hP9, hB9⟩
  have c0 := below_at hB9 c0 hoW
  have c1 := below_at hB9 c1 hoW
  have c2 := below_at hB9 c2 hoW
  have c3 := below_at hB9 c3 hoW
  have c4 := below_at hB9 c4 hoW
  have c5 := below_at hB9 c5 hoW
  have c6 := below_at hB9 c6 hoW
  have c7 := below_at hB9 c7 hoW
  have c8 := below_at hB9 c8 hoW
  have c9 := below_at hB9 c9 hoW
  have c10 := below_at hB9 c10 hoW
  have c11 := below_at hB9 c11 hoW
  have HB9 := Lib.hid (HB8.out.trans (hB9.mono HB2.out.size))
  have hz9 : w2.heap.size ≤ w9.heap.size := Nat.le_trans hz8 hB9.size
  clear hB9 hP8
  go_wp2_with fail
  have hdn := rpDone_ok w9 w2.heap.size pb ([] ++ putB 14 1 ++ putB c 1 ++ putB s 4 ++ (putB d.length 2 ++ d) ++ putB z 4 ++ putB o 4) hP9 (by simp [putB_length]; try omega)
  refine hdn.mono ?_
  rintro e wz ⟨rfl, hBz⟩
  have HBz := Lib.hid (HB9.out.trans (hBz.mono HB9.out.size))
  clear hBz hdn
  go_wp2_with fail
  go_ret2
  exact ⟨putB 14 1 ++ (putB c 1 ++ (putB s 4 ++ (putB (List.length d) 2 ++ (d ++ (putB z 4 ++ putB o 4))))), 0, rfl, HBz.out⟩
/-- a move in small numbers -/
def MvN (m : Mv) : Prop := ∃ a b e f : Nat, m = ((a : Int), (b : Int), (e : Int), (f : Int)) ∧ a ≤ 16383 ∧ b ≤ 1024 ∧ e ≤ 1024 ∧ f ≤ 1024
def EmRel (w0 : World) (B pb n : Nat) (g : Nat) (v : Value) (wr : World) : Prop := ∃ (i : Nat) (l : List UInt8), g = n - i ∧ i ≤ n ∧ v = .int .i64 i ∧ Below B w0 wr ∧ PkAtR B pb l wr ∧ l.length = 11 + 8 * i
set_option maxRecDepth 100000 in
set_option maxHeartbeats 8000000 in
theorem encG13 (w : World) (c s : Nat) (p q : Nm) (xz xh xo : Int) (_xt : ByteArray) (xi _xn : Int) (mp : Option Addr) (ml mc : Nat) (ni : Nat) (d : Nm) (mv : List Mv) (hc : c ≤ 7) (hs : 1 ≤ s ∧ s ≤ 2147483647) (hni : ni ≤ 2147483647) (hd : d.length ≤ 1024) (hml : ml = mv.length) (hm16 : ml ≤ 16) (hrow : MvsAt w (fun _ => True) mp mv) (hgm : ∀ m ∈ mv, MvN m) (hgd : ∀ W, Below w.heap.size w W → Calls Tryz.prog 95 #[.agg #[.int .i64 c, .int .i64 s, .int .i64 13, .string (bs p), .string (bs q), .int .i64 xz, .int .i64 xh, .int .i64 xo, .string (bs d), .int .i64 xi, .int .i64 ni, .slice mp ml mc]] W (BoolB W true)) :
    Calls Tryz.prog 54 #[.agg #[.int .i64 c, .int .i64 s, .int .i64 13, .string (bs p), .string (bs q), .int .i64 xz, .int .i64 xh, .int .i64 xo, .string (bs d), .int .i64 xi, .int .i64 ni, .slice mp ml mc]] w (EncAny w) := by
  have HROWW := Lib.hid hrow
  have HGM := Lib.hid hgm
  have HML := Lib.hid hml
  clear hrow hgm hml
  obtain ⟨W1, hW1⟩ : ∃ W1, W1 = w.alloc (.cells #[.int .i64 c, .int .i64 s, .int .i64 13, .string (bs p), .string (bs q), .int .i64 xz, .int .i64 xh, .int .i64 xo, .string (bs d), .int .i64 xi, .int .i64 ni, .slice mp ml mc] 41) := ⟨_, rfl⟩
  have hB1 : Below w.heap.size w W1 := by rw [hW1]; exact belC (Below.refl _ _)
  have c0 : W1.cell? ⟨w.heap.size, 0, none⟩ = some (.int .i64 c) := by rw [hW1]; go_simp
  have c1 : W1.cell? ⟨w.heap.size, 1, none⟩ = some (.int .i64 s) := by rw [hW1]; go_simp
  have c2 : W1.cell? ⟨w.heap.size, 2, none⟩ = some (.int .i64 13) := by rw [hW1]; go_simp
  have c3 : W1.cell? ⟨w.heap.size, 3, none⟩ = some (.string (bs p)) := by rw [hW1]; go_simp
  have c4 : W1.cell? ⟨w.heap.size, 4, none⟩ = some (.string (bs q)) := by rw [hW1]; go_simp
  have c5 : W1.cell? ⟨w.heap.size, 5, none⟩ = some (.int .i64 xz) := by rw [hW1]; go_simp
  have c6 : W1.cell? ⟨w.heap.size, 6, none⟩ = some (.int .i64 xh) := by rw [hW1]; go_simp
  have c7 : W1.cell? ⟨w.heap.size, 7, none⟩ = some (.int .i64 xo) := by rw [hW1]; go_simp
  have c8 : W1.cell? ⟨w.heap.size, 8, none⟩ = some (.string (bs d)) := by rw [hW1]; go_simp
  have c9 : W1.cell? ⟨w.heap.size, 9, none⟩ = some (.int .i64 xi) := by rw [hW1]; go_simp
  have c10 : W1.cell? ⟨w.heap.size, 10, none⟩ = some (.int .i64 ni) := by rw [hW1]; go_simp
  have c11 : W1.cell? ⟨w.heap.size, 11, none⟩ = some (.slice mp ml mc) := by rw [hW1]; go_simp
  have hol := cell_lt c0
  have HW1 := Lib.hid hW1
  have HB1 := Lib.hid hB1
  have HL1 : Hid (w.heap.size < W1.heap.size) := Lib.hid hol
  clear hW1 hB1
  go_enter Tryz.func54, Tryz.ntmps54
  go_wp2_with fail
  rw [← HW1.out]
  refine (hgd _ HB1.out).mono ?_
  rintro e w2 ⟨rfl, hB2⟩
  have c0 := below_at hB2 c0 hol
  have c1 := below_at hB2 c1 hol
  have c2 := below_at hB2 c2 hol
  have c3 := below_at hB2 c3 hol
  have c4 := below_at hB2 c4 hol
  have c5 := below_at hB2 c5 hol
  have c6 := below_at hB2 c6 hol
  have c7 := below_at hB2 c7 hol
  have c8 := below_at hB2 c8 hol
  have c9 := below_at hB2 c9 hol
  have c10 := below_at hB2 c10 hol
  have c11 := below_at hB2 c11 hol
  have hol := cell_lt c0
  have HB2 := Lib.hid (HB1.out.trans (hB2.mono HB1.out.size))
  have HL2 : Hid (W1.heap.size ≤ w2.heap.size) := Lib.hid hB2.size
  clear hB2
  go_wp2_with fail
  refine (rpNew_any w2).mono ?_
  rintro e w3 ⟨pb, rfl, hP3, hB3⟩
  have hB3' := hB3
  have c0 := below_at hB3 c0 hol
  have c1 := below_at hB3 c1 hol
  have c2 := below_at hB3 c2 hol
  have c3 := below_at hB3 c3 hol
  have c4 := below_at hB3 c4 hol
  have c5 := below_at hB3 c5 hol
  have c6 := below_at hB3 c6 hol
  have c7 := below_at hB3 c7 hol
  have c8 := below_at hB3 c8 hol
  have c9 := below_at hB3 c9 hol
  have c10 := below_at hB3 c10 hol
  have c11 := below_at hB3 c11 hol
  have hol := Nat.lt_of_lt_of_le hol hB3.size
  have HB3 := Lib.hid (HB2.out.trans (hB3.mono HB2.out.size))
  have hz3 := hB3.size
  clear hB3 hB3'
  clear hgd
  go_wp2_with fail
  have hoW : w.heap.size < w2.heap.size := Nat.lt_of_lt_of_le HL1.out HL2.out
  refine (rpNum1 w3 w2.heap.size pb [] 13 (by decide) hP3 (by simp) hz3).mono ?_
  rintro e w4 ⟨rfl, hP4, hB4⟩
  have c0 := below_at hB4 c0 hoW
  have c1 := below_at hB4 c1 hoW
  have c2 := below_at hB4 c2 hoW
  have c3 := below_at hB4 c3 hoW
  have c4 := below_at hB4 c4 hoW
  have c5 := below_at hB4 c5 hoW
  have c6 := below_at hB4 c6 hoW
  have c7 := below_at hB4 c7 hoW
  have c8 := below_at hB4 c8 hoW
  have c9 := below_at hB4 c9 hoW
  have c10 := below_at hB4 c10 hoW
  have c11 := below_at hB4 c11 hoW
  have HB4 := Lib.hid (HB3.out.trans (hB4.mono HB2.out.size))
  have hz4 : w2.heap.size ≤ w4.heap.size := Nat.le_trans hz3 hB4.size
  clear hB4 hP3
  go_wp2_with fail
  refine (rpNum1 w4 w2.heap.size pb ([] ++ putB 13 1) c (by omega) hP4 (by simp [putB_length]) hz4).mono ?_
  rintro e w5 ⟨rfl, hP5, hB5⟩
  have c0 := below_at hB5 c0 hoW
  have c1 := below_at hB5 c1 hoW
  have c2 := below_at hB5 c2 hoW
  have c3 := below_at hB5 c3 hoW
  have c4 := below_at hB5 c4 hoW
  have c5 := below_at hB5 c5 hoW
  have c6 := below_at hB5 c6 hoW
  have c7 := below_at hB5 c7 hoW
  have c8 := below_at hB5 c8 hoW
  have c9 := below_at hB5 c9 hoW
  have c10 := below_at hB5 c10 hoW
  have c11 := below_at hB5 c11 hoW
  have HB5 := Lib.hid (HB4.out.trans (hB5.mono HB2.out.size))
  have hz5 : w2.heap.size ≤ w5.heap.size := Nat.le_trans hz4 hB5.size
  clear hB5 hP4
  go_wp2_with fail
  refine (rpNum4 w5 w2.heap.size pb ([] ++ putB 13 1 ++ putB c 1) s (by omega) hP5 (by simp [putB_length]) hz5).mono ?_
  rintro e w6 ⟨rfl, hP6, hB6⟩
  have c0 := below_at hB6 c0 hoW
  have c1 := below_at hB6 c1 hoW
  have c2 := below_at hB6 c2 hoW
  have c3 := below_at hB6 c3 hoW
  have c4 := below_at hB6 c4 hoW
  have c5 := below_at hB6 c5 hoW
  have c6 := below_at hB6 c6 hoW
  have c7 := below_at hB6 c7 hoW
  have c8 := below_at hB6 c8 hoW
  have c9 := below_at hB6 c9 hoW
  have c10 := below_at hB6 c10 hoW
  have c11 := below_at hB6 c11 hoW
  have HB6 := Lib.hid (HB5.out.trans (hB6.mono HB2.out.size))
  have hz6 : w2.heap.size ≤ w6.heap.size := Nat.le_trans hz5 hB6.size
  clear hB6 hP5
  go_wp2_with fail
  refine (rpNum4 w6 w2.heap.size pb ([] ++ putB 13 1 ++ putB c 1 ++ putB s 4) ni (by omega) hP6 (by simp [putB_length]; try omega) hz6).mono ?_
  rintro e w7 ⟨rfl, hP7, hB7⟩
  have c0 := below_at hB7 c0 hoW
  have c1 := below_at hB7 c1 hoW
  have c2 := below_at hB7 c2 hoW
  have c3 := below_at hB7 c3 hoW
  have c4 := below_at hB7 c4 hoW
  have c5 := below_at hB7 c5 hoW
  have c6 := below_at hB7 c6 hoW
  have c7 := below_at hB7 c7 hoW
  have c8 := below_at hB7 c8 hoW
  have c9 := below_at hB7 c9 hoW
  have c10 := below_at hB7 c10 hoW
  have c11 := below_at hB7 c11 hoW
  have HB7 := Lib.hid (HB6.out.trans (hB7.mono HB2.out.size))
  have hz7 : w2.heap.size ≤ w7.heap.size := Nat.le_trans hz6 hB7.size
  clear hB7 hP6
  go_wp2_with fail
  refine (rpNum1 w7 w2.heap.size pb ([] ++ putB 13 1 ++ putB c 1 ++ putB s 4 ++ putB ni 4) ml (by omega) hP7 (by simp [putB_length]; try omega) hz7).mono ?_
  rintro e w8 ⟨rfl, hP8, hB8⟩
  have c0 := below_at hB8 c0 hoW
  have c1 := below_at hB8 c1 hoW
  have c2 := below_at hB8 c2 hoW
  have c3 := below_at hB8 c3 hoW
  have c4 := below_at hB8 c4 hoW
  have c5 := below_at hB8 c5 hoW
  have c6 := below_at hB8 c6 hoW
  have c7 := below_at hB8 c7 hoW
  have c8 := below_at hB8 c8 hoW
  have c9 := below_at hB8 c9 hoW
  have c10 := below_at hB8 c10 hoW
  have c11 := below_at hB8 c11 hoW
  have HB8 := Lib.hid (HB7.out.trans (hB8.mono HB2.out.size))
  have hz8 : w2.heap.size ≤ w8.heap.size := Nat.le_trans hz7 hB8.size
  clear hB8 hP7
  go_wp2_with fail
  have HBW : Hid (Below w.heap.size w w8) := Lib.hid HB8.out
  clear c0 c1 c2 c3 c4 c5 c6 c7 c9 c10
  have C8 := Lib.hid c8
  have C11 := Lib.hid c11
  clear c8 c11
  go_loopg [5] ml (fun g v wr => EmRel w8 w2.heap.size pb ml g v wr)
  case atStart => exact ⟨0, [] ++ putB 13 1 ++ putB c 1 ++ putB s 4 ++ putB ni 4 ++ putB ml 1, rfl, Nat.zero_le _, rfl, Below.refl _ _, hP8, by simp [putB_length]⟩
  case round =>
    obtain ⟨i, l, hg, hi, rfl, hB, hP, hl⟩ := hrel
    subst hg
    have c8 := below_at hB C8.out hoW
    have c11 := below_at hB C11.out hoW
    have hzwr : w2.heap.size ≤ wr.heap.size := Nat.le_trans hz8 hB.size
    have HBr := Lib.hid hB
    by_cases hlt : i < ml
    · have hix : i < mv.length := HML.out ▸ hlt
      obtain ⟨xb, xo', rfl, -, hxl, hxc⟩ := HROWW.out.elem mvC_len default hix
      have hmem : mv.getD i default ∈ mv := by
        rw [List.getD_eq_getElem?_getD, List.getElem?_eq_getElem hix, Option.getD_some]
        exact List.getElem_mem hix
      obtain ⟨a, b, e0, f, hmq, ha, hb, he, hf⟩ := HGM.out _ hmem
      rw [hmq] at hxc
      have hxo : xb < w2.heap.size := Nat.lt_trans hxl hoW
      have f0 : wr.cell? ⟨xb, xo' + i * 4, none⟩ = some (.int .i64 (a : Int)) := below_at hB (below_at HBW.out (hxc 0 (by decide)) hxl) hxo
      have f1 : wr.cell? ⟨xb, xo' + i * 4 + 1, none⟩ = some (.int .i64 (b : Int)) := below_at hB (below_at HBW.out (hxc 1 (by decide)) hxl) hxo
      have f2 : wr.cell? ⟨xb, xo' + i * 4 + 2, none⟩ = some (.int .i64 (e0 : Int)) := below_at hB (below_at HBW.out (hxc 2 (by decide)) hxl) hxo
      have f3 : wr.cell? ⟨xb, xo' + i * 4 + 3, none⟩ = some (.int .i64 (f : Int)) := below_at hB (below_at HBW.out (hxc 3 (by decide)) hxl) hxo
      have hil : (i : Int) < (ml : Int) := Int.ofNat_lt.2 hlt
      have hwi : wrap64 ((i : Int) + 1) = ((i + 1 : Nat) : Int) := by unfold wrap64; omega
      have HWI := Lib.hid hwi
      have hms : ml - (i + 1) < ml - i := Nat.sub_lt_sub_left hlt (Nat.lt_succ_self i)
      have hi1 : i + 1 ≤ ml := hlt
      clear hxc hmq hmem hwi hB hix
      go_wp2_with fail
      refine (rpNum2 wr w2.heap.size pb (l) a (by omega) hP (by (try simp [putB_length]); omega) hzwr).mono ?_
      rintro e wm0 ⟨rfl, hPwm0, hBwm0⟩
      have c11 := below_at hBwm0 c11 hoW
      have c8 := below_at hBwm0 c8 hoW
      have f0 := below_at hBwm0 f0 hxo
      have f1 := below_at hBwm0 f1 hxo
      have f2 := below_at hBwm0 f2 hxo
      have f3 := below_at hBwm0 f3 hxo
      have HM0 := Lib.hid (HBr.out.trans hBwm0)
      have hzwm0 : w2.heap.size ≤ wm0.heap.size := Nat.le_trans hzwr hBwm0.size
      clear hBwm0 
      go_wp2_with fail
      refine (rpNum2 wm0 w2.heap.size pb (l ++ putB a 2) b (by omega) hPwm0 (by (try simp [putB_length]); omega) hzwm0).mono ?_
      rintro e wm1 ⟨rfl, hPwm1, hBwm1⟩
      have c11 := below_at hBwm1 c11 hoW
      have c8 := below_at hBwm1 c8 hoW
      have f0 := below_at hBwm1 f0 hxo
      have f1 := below_at hBwm1 f1 hxo
      have f2 := below_at hBwm1 f2 hxo
      have f3 := below_at hBwm1 f3 hxo
      have HM1 := Lib.hid (HM0.out.trans hBwm1)
      have hzwm1 : w2.heap.size ≤ wm1.heap.size := Nat.le_trans hzwm0 hBwm1.size
      clear hBwm1 hPwm0
      go_wp2_with fail
      refine (rpNum2 wm1 w2.heap.size pb (l ++ putB a 2 ++ putB b 2) e0 (by omega) hPwm1 (by (try simp [putB_length]); omega) hzwm1).mono ?_
      rintro e wm2 ⟨rfl, hPwm2, hBwm2⟩
      have c11 := below_at hBwm2 c11 hoW
      have c8 := below_at hBwm2 c8 hoW
      have f0 := below_at hBwm2 f0 hxo
      have f1 := below_at hBwm2 f1 hxo
      have f2 := below_at hBwm2 f2 hxo
      have f3 := below_at hBwm2 f3 hxo
      have HM2 := Lib.hid (HM1.out.trans hBwm2)
      have hzwm2 : w2.heap.size ≤ wm2.heap.size := Nat.le_trans hzwm1 hBwm2.size
      clear hBwm2 hPwm1
      go_wp2_with fail
      refine (rpNum2 wm2 w2.heap.size pb (l ++ putB a 2 ++ putB b 2 ++ putB e0 2) f (by omega) hPwm2 (by (try simp [putB_length]); omega) hzwm2).mono ?_
      rintro e wm3 ⟨rfl, hPwm3, hBwm3⟩
      have c11 := below_at hBwm3 c11 hoW
      have c8 := below_at hBwm3 c8 hoW
      have f0 := below_at hBwm3 f0 hxo
      have f1 := below_at hBwm3 f1 hxo
      have f2 := below_at hBwm3 f2 hxo
      have f3 := below_at hBwm3 f3 hxo
      have HM3 := Lib.hid (HM2.out.trans hBwm3)
      have hzwm3 : w2.heap.size ≤ wm3.heap.size := Nat.le_trans hzwm2 hBwm3.size
      clear hBwm3 hPwm2
      go_wp2_with fail
      go_roundg (ml - (i + 1))
      case measure => exact hms
      case rel => exact ⟨i + 1, l ++ putB a 2 ++ putB b 2 ++ putB e0 2 ++ putB f 2, rfl, hi1, by first | rfl | rw [HWI.out], HM3.out, hPwm3, by simp [putB_length]; omega⟩
    · obtain rfl : i = ml := Nat.le_antisymm hi (Nat.not_lt.1 hlt)
      have hge : ¬ (i : Int) < i := Int.lt_irrefl _
      clear hlt hi hB
      go_wp2_with fail
      refine (rpText_any wr w2.heap.size pb l d (by omega) hP (by omega) hzwr).mono ?_
      rintro e wt ⟨rfl, hPt, hBt⟩
      have HBt := Lib.hid (HBr.out.trans hBt)
      have hzt : w2.heap.size ≤ wt.heap.size := Nat.le_trans hzwr hBt.size
      clear hBt hP
      go_wp2_with fail
      have hdn := rpDone_ok wt w2.heap.size pb (l ++ (putB d.length 2 ++ d)) hPt (by simp [putB_length]; omega)
      refine hdn.mono ?_
      rintro e wz ⟨rfl, hBz⟩
      have HBz := Lib.hid (HBW.out.trans (((HBt.out.mono (Nat.le_of_lt hoW)).trans (hBz.mono (Nat.le_trans (Nat.le_of_lt hoW) hzt)))))
      clear hBz hdn
      go_wp2_with fail
      go_ret2
      exact ⟨(l ++ (putB d.length 2 ++ d)), 0, rfl, HBz.out⟩
set_option maxRecDepth 100000 in
set_option maxHeartbeats 4000000 in
theorem encBad (w : World) (x : OpS) (hgd : ∀ W, Below w.heap.size w W → Calls Tryz.prog 95 #[.agg x.cells.toArray] W (BoolB W false)) :
    Calls Tryz.prog 54 #[.agg x.cells.toArray] w (EncAny w) := by
  obtain ⟨xc, xs, xk, p, q, xz, xh, xo, xt, xi, xn, mp, ml, mc⟩ := x
  simp only [OpS.cells] at hgd ⊢
  obtain ⟨W1, hW1⟩ : ∃ W1, W1 = w.alloc (.cells #[.int .i64 xc, .int .i64 xs, .int .i64 xk, .string (bs p), .string (bs q), .int .i64 xz, .int .i64 xh, .int .i64 xo, .string xt, .int .i64 xi, .int .i64 xn, .slice mp ml mc] 41) := ⟨_, rfl⟩
  have hB1 : Below w.heap.size w W1 := by rw [hW1]; exact belC (Below.refl _ _)
  have HW1 := Lib.hid hW1
  have HB1 := Lib.hid hB1
  clear hW1 hB1
  go_enter Tryz.func54, Tryz.ntmps54
  go_wp2_with fail
  rw [← HW1.out]
  refine (hgd _ HB1.out).mono ?_
  rintro e w2 ⟨rfl, hB2⟩
  have HB2 := Lib.hid (HB1.out.trans (hB2.mono HB1.out.size))
  clear hB2
  go_wp2_with fail
  go_ret2
  exact ⟨[], 11, rfl, HB2.out⟩
theorem winB_nat {v lo hi : Int} (h : winB v lo hi = true) (h0 : 0 ≤ lo) : ∃ n : Nat, v = n ∧ (n : Int) ≤ hi ∧ lo ≤ n := by
  have h2 : lo ≤ v ∧ v ≤ hi := by simpa [winB] using h
  exact ⟨v.toNat, by omega, by omega, by omega⟩
theorem mvN_of {dl : Nat} {m : Mv} (h : goodMv dl m = true) (hd : dl ≤ 1024) : MvN m := by
  obtain ⟨a, b, c, d⟩ := m
  rw [goodMv_doc dl a b c d hd] at h
  simp only [Bool.and_eq_true] at h
  obtain ⟨h1, h2, h3, h4, -⟩ := h
  obtain ⟨a', rfl, ha, -⟩ := winB_nat h1 (by decide)
  obtain ⟨b', rfl, hb, -⟩ := winB_nat h2 (by decide)
  obtain ⟨c', rfl, hc, -⟩ := winB_nat h3 (by decide)
  obtain ⟨d', rfl, hd', -⟩ := winB_nat h4 (by decide)
  exact ⟨a', b', c', d', rfl, by omega, by omega, by omega, by omega⟩
set_option maxRecDepth 100000 in
set_option maxHeartbeats 8000000 in
theorem rEnc_any (w : World) (x : OpS) (mv : List Mv) (hx : OpIn w x mv) (hp : x.path.length ≤ 2000) (hq : x.dest.length ≤ 2000) (h16 : mv.length ≤ 100) : Calls Tryz.prog 54 #[.agg x.cells.toArray] w (EncAny w) := by
  by_cases hbad : winB x.client 0 7 = false ∨ winB x.seq 1 2147483647 = false ∨ x.alike x.kept = false
  · exact encBad w x fun W hB => rgood_head W x mv ⟨hx.below' hB, by omega⟩ hbad
  have h1 : winB x.client 0 7 = true := by cases h : winB x.client 0 7 <;> simp_all
  have h2 : winB x.seq 1 2147483647 = true := by cases h : winB x.seq 1 2147483647 <;> simp_all
  have h3 : x.alike x.kept = true := by cases h : x.alike x.kept <;> simp_all
  clear hbad
  by_cases hkn : knownB x.kind = false
  · exact encBad w x fun W hB => rgoodU_any W x mv ⟨hx.below' hB, by omega⟩ hkn h1 h2 h3
  have hkk : 0 < x.kind ∧ x.kind < 15 := by simpa [knownB] using hkn
  clear hkn
  obtain ⟨xc, xs, xk, p, q, xz, xh, xo, xt, xi, xn, mp, ml, mc⟩ := x
  simp only at hp hq h1 h2 hkk
  have hcl := h1
  obtain ⟨c, rfl, hc, -⟩ := winB_nat hcl (by decide)
  have hsq := h2
  obtain ⟨s, rfl, hs, hs0⟩ := winB_nat hsq (by decide)
  obtain ⟨d, rfl⟩ : ∃ d : Nm, xt = bs d := ⟨xt.data.toList, rfl⟩
  have hcs : xk = 1 ∨ xk = 2 ∨ xk = 3 ∨ xk = 4 ∨ xk = 5 ∨ xk = 6 ∨ xk = 7 ∨ xk = 8 ∨ xk = 9 ∨ xk = 10 ∨ xk = 11 ∨ xk = 12 ∨ xk = 13 ∨ xk = 14 := by omega
  clear hkk hcl hsq
  have hc7 : c ≤ 7 := by omega
  have hs7 : 1 ≤ s ∧ s ≤ 2147483647 := by omega
  clear hc hs hs0
  rcases hcs with hk | hk | hk | hk | hk | hk | hk | hk | hk | hk | hk | hk | hk | hk
  · subst hk
    have hv : ∀ W, Below w.heap.size w W → Calls Tryz.prog 95 #[.agg (OpS.mk c s 1 p q xz xh xo (bs d) xi xn mp ml mc).cells.toArray] W (BoolB W (goodPath p)) := fun W hB => rgood1_any W ⟨c, s, 1, p, q, xz, xh, xo, bs d, xi, xn, mp, ml, mc⟩ mv ⟨hx.below' hB, by omega⟩ rfl h1 h2 h3 (by show p.length ≤ 100000; omega) (by show q.length ≤ 100000; omega)
    cases hf : (goodPath p)
    · rw [hf] at hv
      exact encBad w _ hv
    rw [hf] at hv
    try simp only [Bool.and_eq_true, decide_eq_true_eq] at hf

    exact encG1 w c s p q xz xh xo (bs d) xi xn mp ml mc hc7 hs7 hp hv
  · subst hk
    have hv : ∀ W, Below w.heap.size w W → Calls Tryz.prog 95 #[.agg (OpS.mk c s 2 p q xz xh xo (bs d) xi xn mp ml mc).cells.toArray] W (BoolB W (goodPath p)) := fun W hB => rgood2_any W ⟨c, s, 2, p, q, xz, xh, xo, bs d, xi, xn, mp, ml, mc⟩ mv ⟨hx.below' hB, by omega⟩ rfl h1 h2 h3 (by show p.length ≤ 100000; omega) (by show q.length ≤ 100000; omega)
    cases hf : (goodPath p)
    · rw [hf] at hv
      exact encBad w _ hv
    rw [hf] at hv
    try simp only [Bool.and_eq_true, decide_eq_true_eq] at hf

    exact encG2 w c s p q xz xh xo (bs d) xi xn mp ml mc hc7 hs7 hp hv
  · subst hk
    have hv : ∀ W, Below w.heap.size w W → Calls Tryz.prog 95 #[.agg (OpS.mk c s 3 p q xz xh xo (bs d) xi xn mp ml mc).cells.toArray] W (BoolB W (goodPath p)) := fun W hB => rgood3_any W ⟨c, s, 3, p, q, xz, xh, xo, bs d, xi, xn, mp, ml, mc⟩ mv ⟨hx.below' hB, by omega⟩ rfl h1 h2 h3 (by show p.length ≤ 100000; omega) (by show q.length ≤ 100000; omega)
    cases hf : (goodPath p)
    · rw [hf] at hv
      exact encBad w _ hv
    rw [hf] at hv
    try simp only [Bool.and_eq_true, decide_eq_true_eq] at hf

    exact encG3 w c s p q xz xh xo (bs d) xi xn mp ml mc hc7 hs7 hp hv
  · subst hk
    have hv : ∀ W, Below w.heap.size w W → Calls Tryz.prog 95 #[.agg (OpS.mk c s 4 p q xz xh xo (bs d) xi xn mp ml mc).cells.toArray] W (BoolB W (goodPath p && goodPath q)) := fun W hB => rgood4_any W ⟨c, s, 4, p, q, xz, xh, xo, bs d, xi, xn, mp, ml, mc⟩ mv ⟨hx.below' hB, by omega⟩ rfl h1 h2 h3 (by show p.length ≤ 100000; omega) (by show q.length ≤ 100000; omega)
    cases hf : (goodPath p && goodPath q)
    · rw [hf] at hv
      exact encBad w _ hv
    rw [hf] at hv
    try simp only [Bool.and_eq_true, decide_eq_true_eq] at hf

    exact encG4 w c s p q xz xh xo (bs d) xi xn mp ml mc hc7 hs7 hp hq hv
  · subst hk
    have hv : ∀ W, Below w.heap.size w W → Calls Tryz.prog 95 #[.agg (OpS.mk c s 5 p q xz xh xo (bs d) xi xn mp ml mc).cells.toArray] W (BoolB W (goodPath p)) := fun W hB => rgood5_any W ⟨c, s, 5, p, q, xz, xh, xo, bs d, xi, xn, mp, ml, mc⟩ mv ⟨hx.below' hB, by omega⟩ rfl h1 h2 h3 (by show p.length ≤ 100000; omega) (by show q.length ≤ 100000; omega)
    cases hf : (goodPath p)
    · rw [hf] at hv
      exact encBad w _ hv
    rw [hf] at hv
    try simp only [Bool.and_eq_true, decide_eq_true_eq] at hf

    exact encG5 w c s p q xz xh xo (bs d) xi xn mp ml mc hc7 hs7 hp hv
  · subst hk
    have hv : ∀ W, Below w.heap.size w W → Calls Tryz.prog 95 #[.agg (OpS.mk c s 6 p q xz xh xo (bs d) xi xn mp ml mc).cells.toArray] W (BoolB W (goodPath p && goodPath q)) := fun W hB => rgood6_any W ⟨c, s, 6, p, q, xz, xh, xo, bs d, xi, xn, mp, ml, mc⟩ mv ⟨hx.below' hB, by omega⟩ rfl h1 h2 h3 (by show p.length ≤ 100000; omega) (by show q.length ≤ 100000; omega)
    cases hf : (goodPath p && goodPath q)
    · rw [hf] at hv
      exact encBad w _ hv
    rw [hf] at hv
    try simp only [Bool.and_eq_true, decide_eq_true_eq] at hf

    exact encG6 w c s p q xz xh xo (bs d) xi xn mp ml mc hc7 hs7 hp hq hv
  · subst hk
    have hv : ∀ W, Below w.heap.size w W → Calls Tryz.prog 95 #[.agg (OpS.mk c s 7 p q xz xh xo (bs d) xi xn mp ml mc).cells.toArray] W (BoolB W (goodPath p && winB xz 0 8192)) := fun W hB => rgood7_any W ⟨c, s, 7, p, q, xz, xh, xo, bs d, xi, xn, mp, ml, mc⟩ mv ⟨hx.below' hB, by omega⟩ rfl h1 h2 h3 (by show p.length ≤ 100000; omega) (by show q.length ≤ 100000; omega)
    cases hf : (goodPath p && winB xz 0 8192)
    · rw [hf] at hv
      exact encBad w _ hv
    rw [hf] at hv
    try simp only [Bool.and_eq_true, decide_eq_true_eq] at hf
    obtain ⟨z, rfl, hz, -⟩ := winB_nat hf.2 (by decide)
    exact encG7 w c s p q z xh xo (bs d) xi xn mp ml mc z hc7 hs7 hp (by omega) hv
  · subst hk
    have hv : ∀ W, Below w.heap.size w W → Calls Tryz.prog 95 #[.agg (OpS.mk c s 8 p q xz xh xo (bs d) xi xn mp ml mc).cells.toArray] W (BoolB W (goodPath p)) := fun W hB => rgood8_any W ⟨c, s, 8, p, q, xz, xh, xo, bs d, xi, xn, mp, ml, mc⟩ mv ⟨hx.below' hB, by omega⟩ rfl h1 h2 h3 (by show p.length ≤ 100000; omega) (by show q.length ≤ 100000; omega)
    cases hf : (goodPath p)
    · rw [hf] at hv
      exact encBad w _ hv
    rw [hf] at hv
    try simp only [Bool.and_eq_true, decide_eq_true_eq] at hf

    exact encG8 w c s p q xz xh xo (bs d) xi xn mp ml mc hc7 hs7 hp hv
  · subst hk
    have hv : ∀ W, Below w.heap.size w W → Calls Tryz.prog 95 #[.agg (OpS.mk c s 9 p q xz xh xo (bs d) xi xn mp ml mc).cells.toArray] W (BoolB W (winB xh 0 16383)) := fun W hB => rgood9_any W ⟨c, s, 9, p, q, xz, xh, xo, bs d, xi, xn, mp, ml, mc⟩ mv ⟨hx.below' hB, by omega⟩ rfl h1 h2 h3 (by show p.length ≤ 100000; omega) (by show q.length ≤ 100000; omega)
    cases hf : (winB xh 0 16383)
    · rw [hf] at hv
      exact encBad w _ hv
    rw [hf] at hv
    try simp only [Bool.and_eq_true, decide_eq_true_eq] at hf
    obtain ⟨h, rfl, hh, -⟩ := winB_nat hf (by decide)
    exact encG9 w c s p q xz h xo (bs d) xi xn mp ml mc h hc7 hs7 (by omega) hv
  · subst hk
    have hv : ∀ W, Below w.heap.size w W → Calls Tryz.prog 95 #[.agg (OpS.mk c s 10 p q xz xh xo (bs d) xi xn mp ml mc).cells.toArray] W (BoolB W (winB xh 0 16383 && winB xo 0 8192 && winB (bs d).size 1 1024)) := fun W hB => rgood10_any W ⟨c, s, 10, p, q, xz, xh, xo, bs d, xi, xn, mp, ml, mc⟩ mv ⟨hx.below' hB, by omega⟩ rfl h1 h2 h3 (by show p.length ≤ 100000; omega) (by show q.length ≤ 100000; omega)
    cases hf : (winB xh 0 16383 && winB xo 0 8192 && winB (bs d).size 1 1024)
    · rw [hf] at hv
      exact encBad w _ hv
    rw [hf] at hv
    try simp only [Bool.and_eq_true, decide_eq_true_eq] at hf
    obtain ⟨h, rfl, hh, -⟩ := winB_nat hf.1.1 (by decide)
    obtain ⟨o, rfl, ho, -⟩ := winB_nat hf.1.2 (by decide)
    have hdl := hf.2
    rw [bs_size] at hdl
    have hdl2 : d.length ≤ 1024 := by simp [winB] at hdl; omega
    exact encG10 w c s p q xz h o (bs d) xi xn mp ml mc h o d hc7 hs7 (by omega) (by omega) hdl2 hv
  · subst hk
    have hv : ∀ W, Below w.heap.size w W → Calls Tryz.prog 95 #[.agg (OpS.mk c s 11 p q xz xh xo (bs d) xi xn mp ml mc).cells.toArray] W (BoolB W (winB xi 0 1099511627776)) := fun W hB => rgood11_any W ⟨c, s, 11, p, q, xz, xh, xo, bs d, xi, xn, mp, ml, mc⟩ mv ⟨hx.below' hB, by omega⟩ rfl h1 h2 h3 (by show p.length ≤ 100000; omega) (by show q.length ≤ 100000; omega)
    cases hf : (winB xi 0 1099511627776)
    · rw [hf] at hv
      exact encBad w _ hv
    rw [hf] at hv
    try simp only [Bool.and_eq_true, decide_eq_true_eq] at hf
    obtain ⟨t, rfl, ht, -⟩ := winB_nat hf (by decide)
    exact encG11 w c s p q xz xh xo (bs d) t xn mp ml mc t hc7 hs7 (by omega) hv
  · subst hk
    have hv : ∀ W, Below w.heap.size w W → Calls Tryz.prog 95 #[.agg (OpS.mk c s 12 p q xz xh xo (bs d) xi xn mp ml mc).cells.toArray] W (BoolB W (winB xi 0 1099511627776)) := fun W hB => rgood12_any W ⟨c, s, 12, p, q, xz, xh, xo, bs d, xi, xn, mp, ml, mc⟩ mv ⟨hx.below' hB, by omega⟩ rfl h1 h2 h3 (by show p.length ≤ 100000; omega) (by show q.length ≤ 100000; omega)
    cases hf : (winB xi 0 1099511627776)
    · rw [hf] at hv
      exact encBad w _ hv
    rw [hf] at hv
    try simp only [Bool.and_eq_true, decide_eq_true_eq] at hf
    obtain ⟨t, rfl, ht, -⟩ := winB_nat hf (by decide)
    exact encG12 w c s p q xz xh xo (bs d) t xn mp ml mc t hc7 hs7 (by omega) hv
  · subst hk
    have hv : ∀ W, Below w.heap.size w W → Calls Tryz.prog 95 #[.agg (OpS.mk c s 13 p q xz xh xo (bs d) xi xn mp ml mc).cells.toArray] W (BoolB W (winB xn 1 2147483647 && winB mv.length 1 16 && decide ((bs d).size ≤ 1024) && mv.all (goodMv (bs d).size))) := fun W hB => rgood13_any W ⟨c, s, 13, p, q, xz, xh, xo, bs d, xi, xn, mp, ml, mc⟩ mv ⟨hx.below' hB, by omega⟩ rfl h1 h2 h3
    cases hf : (winB xn 1 2147483647 && winB mv.length 1 16 && decide ((bs d).size ≤ 1024) && mv.all (goodMv (bs d).size))
    · rw [hf] at hv
      exact encBad w _ hv
    rw [hf] at hv
    try simp only [Bool.and_eq_true, decide_eq_true_eq] at hf
    obtain ⟨ni, rfl, hni, -⟩ := winB_nat hf.1.1.1 (by decide)
    have hml : ml = mv.length := hx.len
    have hl16 : ml ≤ 16 := by have := hf.1.1.2; simp [winB] at this; omega
    have hdl := hf.1.2
    have hdl2 : d.length ≤ 1024 := by rw [bs_size] at hdl; exact hdl
    have hga := hf.2
    rw [List.all_eq_true] at hga
    exact encG13 w c s p q xz xh xo (bs d) xi ni mp ml mc ni d mv hc7 hs7 (by omega) hdl2 hml hl16 hx.row (fun m hm => mvN_of (hga m hm) hdl) hv
  · subst hk
    have hv : ∀ W, Below w.heap.size w W → Calls Tryz.prog 95 #[.agg (OpS.mk c s 14 p q xz xh xo (bs d) xi xn mp ml mc).cells.toArray] W (BoolB W (winB (bs d).size 1 1024 && winB xz 1 65536 && winB xo 0 (xz - (bs d).size))) := fun W hB => rgood14_any W ⟨c, s, 14, p, q, xz, xh, xo, bs d, xi, xn, mp, ml, mc⟩ mv ⟨hx.below' hB, by omega⟩ rfl h1 h2 h3 (by show p.length ≤ 100000; omega) (by show q.length ≤ 100000; omega)
    cases hf : (winB (bs d).size 1 1024 && winB xz 1 65536 && winB xo 0 (xz - (bs d).size))
    · rw [hf] at hv
      exact encBad w _ hv
    rw [hf] at hv
    try simp only [Bool.and_eq_true, decide_eq_true_eq] at hf
    obtain ⟨z, rfl, hz, -⟩ := winB_nat hf.1.2 (by decide)
    obtain ⟨o, rfl, ho, -⟩ := winB_nat hf.2 (by decide)
    have hdl := hf.1.1
    rw [bs_size] at hdl
    have hdl2 : d.length ≤ 1024 := by simp [winB] at hdl; omega
    exact encG14 w c s p q z xh o (bs d) xi xn mp ml mc z o d hc7 hs7 (by omega) (by omega) hdl2 hv
end Go.Proofs.YtpiogibkleaaaaaGreatDoor
