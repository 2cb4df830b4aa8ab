/- the document's text of a record -/
import Derived.Test.YtpiogibkleaaaaaGreatDoorR8b
import Derived.Test.YtpiogibkleaaaaaGreatDoorPkRPk
namespace Esch
open Go Go.RowKit
/-- a record of a path, of a handle, a write -/
def opP (k c s : Nat) (p : Nm) : OpS := { opN c s k with path := p }
def headL (k c s : Nat) : List UInt8 := putB k 1 ++ putB c 1 ++ putB s 4
def textL (p : List UInt8) : List UInt8 := putB p.length 2 ++ p
end Esch
namespace Go.Proofs.YtpiogibkleaaaaaGreatDoor
open Go.RowKit Esch

set_option linter.unusedSimpArgs false
def EncPost (w : World) (l : List UInt8) (e : Ending) (w' : World) : Prop := e = .returned (.tuple #[.string (bs l), .int .i64 0]) ∧ Below w.heap.size w w'
theorem opIn_nil (w : World) (x : OpS) (h : x.ml = 0) (h2 : x.mc = 0) : OpIn w x [] := ⟨h, RwAt.nil _ _ _ _, by omega, by omega⟩
theorem kept_opP (k c s : Nat) (p : Nm) (hk : k = 1 ∨ k = 2 ∨ k = 3 ∨ k = 5 ∨ k = 8) : (opP k c s p).alike (opP k c s p).kept = true := by
  rcases hk with rfl | rfl | rfl | rfl | rfl <;> simp [OpS.alike, OpS.kept, opP, opN, fldL, OpS.put]
set_option maxRecDepth 100000 in
set_option maxHeartbeats 8000000 in
theorem encP1_any (w : World) (c s : Nat) (p : Nm) (hc : c ≤ 7) (hs : 1 ≤ s ∧ s ≤ 2147483647) (hp : goodPath p = true) (hpl : p.length ≤ 1000) :
    Calls Tryz.prog 54 #[.agg (opP 1 c s p).cells.toArray] w (EncPost w (headL 1 c s ++ textL p)) := by
  have hgd : ∀ W, Calls Tryz.prog 95 #[.agg (opP 1 c s p).cells.toArray] W (BoolB W true) := fun W => by
    have := rgood1_any W (opP 1 c s p) [] ⟨opIn_nil W _ rfl rfl, by simp⟩ rfl (by show winB c 0 7 = true; simp [winB]; omega) (by show winB s 1 2147483647 = true; simp [winB]; omega) (kept_opP 1 c s p (by decide)) (by show p.length ≤ 100000; omega) (by show ([] : Nm).length ≤ 100000; decide)
    rw [show goodPath (opP 1 c s p).path = true from hp] at this
    exact this
  have hcl : (opP 1 c s p).cells.toArray = #[.int .i64 c, .int .i64 s, .int .i64 1, .string (bs p), .string ⟨#[]⟩, .int .i64 0, .int .i64 0, .int .i64 0, .string ⟨#[]⟩, .int .i64 0, .int .i64 0, .slice none 0 0] := rfl
  rw [hcl] at hgd ⊢
  clear hcl
  obtain ⟨W1, hW1⟩ : ∃ W1, W1 = w.alloc (.cells #[.int .i64 c, .int .i64 s, .int .i64 1, .string (bs p), .string ⟨#[]⟩, .int .i64 0, .int .i64 0, .int .i64 0, .string ⟨#[]⟩, .int .i64 0, .int .i64 0, .slice none 0 0] 41) := ⟨_, rfl⟩
  have hB1 : Below w.heap.size w W1 := by rw [hW1]; exact belC (Below.refl _ _)
  have c0 : W1.cell? ⟨w.heap.size, 0, none⟩ = some (.int .i64 c) := by rw [hW1]; go_simp
  have c1 : W1.cell? ⟨w.heap.size, 1, none⟩ = some (.int .i64 s) := by rw [hW1]; go_simp
  have c2 : W1.cell? ⟨w.heap.size, 2, none⟩ = some (.int .i64 1) := by rw [hW1]; go_simp
  have c3 : W1.cell? ⟨w.heap.size, 3, none⟩ = some (.string (bs p)) := by rw [hW1]; go_simp
  have c4 : W1.cell? ⟨w.heap.size, 4, none⟩ = some (.string ⟨#[]⟩) := by rw [hW1]; go_simp
  have c5 : W1.cell? ⟨w.heap.size, 5, none⟩ = some (.int .i64 0) := by rw [hW1]; go_simp
  have c6 : W1.cell? ⟨w.heap.size, 6, none⟩ = some (.int .i64 0) := by rw [hW1]; go_simp
  have c7 : W1.cell? ⟨w.heap.size, 7, none⟩ = some (.int .i64 0) := by rw [hW1]; go_simp
  have c8 : W1.cell? ⟨w.heap.size, 8, none⟩ = some (.string ⟨#[]⟩) := by rw [hW1]; go_simp
  have c9 : W1.cell? ⟨w.heap.size, 9, none⟩ = some (.int .i64 0) := by rw [hW1]; go_simp
  have c10 : W1.cell? ⟨w.heap.size, 10, none⟩ = some (.int .i64 0) := by rw [hW1]; go_simp
  have c11 : W1.cell? ⟨w.heap.size, 11, none⟩ = some (.slice none 0 0) := by rw [hW1]; go_simp
  have hol := cell_lt c0
  have HW1 := Lib.hid hW1
  have HB1 := Lib.hid hB1
  have HL1 : Hid (w.heap.size < W1.heap.size) := Lib.hid hol
  clear hW1 hB1
  go_enter Tryz.func54, Tryz.ntmps54
  go_wp2_with fail
  rw [← HW1.out]
  refine (hgd _).mono ?_
  rintro e w2 ⟨rfl, hB2⟩
  have c0 := below_at hB2 c0 hol
  have c1 := below_at hB2 c1 hol
  have c2 := below_at hB2 c2 hol
  have c3 := below_at hB2 c3 hol
  have c4 := below_at hB2 c4 hol
  have c5 := below_at hB2 c5 hol
  have c6 := below_at hB2 c6 hol
  have c7 := below_at hB2 c7 hol
  have c8 := below_at hB2 c8 hol
  have c9 := below_at hB2 c9 hol
  have c10 := below_at hB2 c10 hol
  have c11 := below_at hB2 c11 hol
  have hol := cell_lt c0
  have HB2 := Lib.hid (HB1.out.trans (hB2.mono HB1.out.size))
  have HL2 : Hid (W1.heap.size ≤ w2.heap.size) := Lib.hid hB2.size
  clear hB2
  go_wp2_with fail
  refine (rpNew_any w2).mono ?_
  rintro e w3 ⟨pb, rfl, hP3, hB3⟩
  have hB3' := hB3
  have c0 := below_at hB3 c0 hol
  have c1 := below_at hB3 c1 hol
  have c2 := below_at hB3 c2 hol
  have c3 := below_at hB3 c3 hol
  have c4 := below_at hB3 c4 hol
  have c5 := below_at hB3 c5 hol
  have c6 := below_at hB3 c6 hol
  have c7 := below_at hB3 c7 hol
  have c8 := below_at hB3 c8 hol
  have c9 := below_at hB3 c9 hol
  have c10 := below_at hB3 c10 hol
  have c11 := below_at hB3 c11 hol
  have hol := Nat.lt_of_lt_of_le hol hB3.size
  have HB3 := Lib.hid (HB2.out.trans (hB3.mono HB2.out.size))
  have hz3 := hB3.size
  clear hB3 hB3'
  go_wp2_with fail
  have hoW : w.heap.size < w2.heap.size := Nat.lt_of_lt_of_le HL1.out HL2.out
  refine (rpNum1 w3 w2.heap.size pb [] 1 (by decide) hP3 (by simp) hz3).mono ?_
  rintro e w4 ⟨rfl, hP4, hB4⟩
  have c0 := below_at hB4 c0 hoW
  have c1 := below_at hB4 c1 hoW
  have c2 := below_at hB4 c2 hoW
  have c3 := below_at hB4 c3 hoW
  have c4 := below_at hB4 c4 hoW
  have c5 := below_at hB4 c5 hoW
  have c6 := below_at hB4 c6 hoW
  have c7 := below_at hB4 c7 hoW
  have c8 := below_at hB4 c8 hoW
  have c9 := below_at hB4 c9 hoW
  have c10 := below_at hB4 c10 hoW
  have c11 := below_at hB4 c11 hoW
  have HB4 := Lib.hid (HB3.out.trans (hB4.mono HB2.out.size))
  have hz4 : w2.heap.size ≤ w4.heap.size := Nat.le_trans hz3 hB4.size
  clear hB4 hP3
  go_wp2_with fail
  refine (rpNum1 w4 w2.heap.size pb ([] ++ putB 1 1) c (by omega) hP4 (by simp [putB_length]) hz4).mono ?_
  rintro e w5 ⟨rfl, hP5, hB5⟩
  have c0 := below_at hB5 c0 hoW
  have c1 := below_at hB5 c1 hoW
  have c2 := below_at hB5 c2 hoW
  have c3 := below_at hB5 c3 hoW
  have c4 := below_at hB5 c4 hoW
  have c5 := below_at hB5 c5 hoW
  have c6 := below_at hB5 c6 hoW
  have c7 := below_at hB5 c7 hoW
  have c8 := below_at hB5 c8 hoW
  have c9 := below_at hB5 c9 hoW
  have c10 := below_at hB5 c10 hoW
  have c11 := below_at hB5 c11 hoW
  have HB5 := Lib.hid (HB4.out.trans (hB5.mono HB2.out.size))
  have hz5 : w2.heap.size ≤ w5.heap.size := Nat.le_trans hz4 hB5.size
  clear hB5 hP4
  go_wp2_with fail
  refine (rpNum4 w5 w2.heap.size pb ([] ++ putB 1 1 ++ putB c 1) s (by omega) hP5 (by simp [putB_length]) hz5).mono ?_
  rintro e w6 ⟨rfl, hP6, hB6⟩
  have c0 := below_at hB6 c0 hoW
  have c1 := below_at hB6 c1 hoW
  have c2 := below_at hB6 c2 hoW
  have c3 := below_at hB6 c3 hoW
  have c4 := below_at hB6 c4 hoW
  have c5 := below_at hB6 c5 hoW
  have c6 := below_at hB6 c6 hoW
  have c7 := below_at hB6 c7 hoW
  have c8 := below_at hB6 c8 hoW
  have c9 := below_at hB6 c9 hoW
  have c10 := below_at hB6 c10 hoW
  have c11 := below_at hB6 c11 hoW
  have HB6 := Lib.hid (HB5.out.trans (hB6.mono HB2.out.size))
  have hz6 : w2.heap.size ≤ w6.heap.size := Nat.le_trans hz5 hB6.size
  clear hB6 hP5
  go_wp2_with fail
  refine (rpText_any w6 w2.heap.size pb ([] ++ putB 1 1 ++ putB c 1 ++ putB s 4) p (by omega) hP6 (by simp [putB_length]; try omega) hz6).mono ?_
  rintro e w7 ⟨rfl, hP7, hB7⟩
  have c0 := below_at hB7 c0 hoW
  have c1 := below_at hB7 c1 hoW
  have c2 := below_at hB7 c2 hoW
  have c3 := below_at hB7 c3 hoW
  have c4 := below_at hB7 c4 hoW
  have c5 := below_at hB7 c5 hoW
  have c6 := below_at hB7 c6 hoW
  have c7 := below_at hB7 c7 hoW
  have c8 := below_at hB7 c8 hoW
  have c9 := below_at hB7 c9 hoW
  have c10 := below_at hB7 c10 hoW
  have c11 := below_at hB7 c11 hoW
  have HB7 := Lib.hid (HB6.out.trans (hB7.mono HB2.out.size))
  have hz7 : w2.heap.size ≤ w7.heap.size := Nat.le_trans hz6 hB7.size
  clear hB7 hP6
  go_wp2_with fail
  have hdn := rpDone_ok w7 w2.heap.size pb ([] ++ putB 1 1 ++ putB c 1 ++ putB s 4 ++ (putB p.length 2 ++ p)) hP7 (by simp [putB_length]; try omega)
  refine hdn.mono ?_
  rintro e wz ⟨rfl, hBz⟩
  have HBz := Lib.hid (HB7.out.trans (hBz.mono HB7.out.size))
  clear hBz hdn
  go_wp2_with fail
  go_ret2
  refine ⟨(show Ending.returned (Value.tuple #[.string (bs ([] ++ putB 1 1 ++ putB c 1 ++ putB s 4 ++ (putB p.length 2 ++ p))), .int .i64 0]) = _ from ?_), HBz.out⟩
  simp only [headL, textL, List.nil_append, List.append_assoc]
end Go.Proofs.YtpiogibkleaaaaaGreatDoor
