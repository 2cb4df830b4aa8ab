import Derived.Test.YtchidgpaejkaiaaEnc
import Derived.Test.YtchidgpaejkaiaaShift2
import Derived.Test.YtchidgpaejkaiaaRefGood
/- the document's packer, and its text of a projection -/
namespace Go.Proofs.Ytchidgpaejkaiaa
open Go.RowKit Esch

structure PkR (w : World) (b : Nat) (bs : List UInt8) : Prop where
  c0 : w.cell? ⟨b, 0, none⟩ = some (.string ⟨bs.toArray⟩)
  c1 : w.cell? ⟨b, 1, none⟩ = some (.bool false)
  f0 : w.frozen? ⟨b, 0, none⟩ = false
  f1 : w.frozen? ⟨b, 1, none⟩ = false
def PkAtR (B b : Nat) (bs : List UInt8) (w : World) : Prop := B ≤ b ∧ PkR w b bs
theorem PkR.keep {w w' : World} {b : Nat} {bs : List UInt8} (h : PkR w b bs) (hB : Below w.heap.size w w') : PkR w' b bs :=
  ⟨below_at hB h.c0 (cell_lt h.c0), below_at hB h.c1 (cell_lt h.c0), (hB.frozen (p := ⟨b, 0, none⟩) (cell_lt h.c0)).trans h.f0, (hB.frozen (p := ⟨b, 1, none⟩) (cell_lt h.c0)).trans h.f1⟩
def PkPostR (w : World) (B b : Nat) (bs : List UInt8) (e : Ending) (w' : World) : Prop := e = .returned (.tuple #[]) ∧ PkAtR B b bs w' ∧ Below B w w'
set_option maxHeartbeats 1000000 in
theorem rpNew_any (w : World) : Calls Try.prog 50 #[] w fun e w' => ∃ b, e = .returned (.pointer (some ⟨b, 0, none⟩)) ∧ PkAtR w.heap.size b [] w' ∧ Below w.heap.size w w' := by
  go_enter Try.func50, Try.ntmps50
  go_wp2_with fail
  go_ret
  exact ⟨w.heap.size, rfl, ⟨Nat.le_refl _, by go_simp, by go_simp, by go_simp, by go_simp⟩, by (repeat (first | with_reducible exact (Below.refl _ _) | with_reducible refine Below.drew ?_ | with_reducible refine Esch.below_drewN ?_ _ | with_reducible refine Below.setCell ?_ (by first | omega | (simp; done) | (simp; omega)) _ | with_reducible refine Below.alloc ?_ (by first | omega | (simp; done) | (simp; omega)) _))⟩
set_option maxHeartbeats 1000000 in
theorem rsize_any (w : World) (n : Nat) (hn : n = 1 ∨ n = 2 ∨ n = 4 ∨ n = 8) : Calls Try.prog 69 #[.int .i64 n] w fun e w' => e = .returned (.bool true) ∧ w' = w := by
  rcases hn with rfl | rfl | rfl | rfl
  all_goals
    go_enter Try.func69, Try.ntmps69
    go_wp2_with fail
    go_ret
    exact ⟨rfl, rfl⟩
theorem strcat (a b : List UInt8) : (⟨(a ++ b).toArray⟩ : ByteArray) = ⟨a.toArray⟩ ++ ⟨b.toArray⟩ := by
  refine ByteArray.ext ?_
  simp
set_option maxRecDepth 100000 in
set_option maxHeartbeats 1000000 in
theorem rpNum4 (w : World) (B b : Nat) (bs : List UInt8) (v : Nat) (hv : v < 4294967296) (h : PkAtR B b bs w) (hlen : bs.length ≤ 900000) (hBw : B ≤ w.heap.size) :
    Calls Try.prog 51 #[.pointer (some ⟨b, 0, none⟩), .int .i64 v, .int .i64 4] w (PkPostR w B b (bs ++ putB v 4)) := by
  obtain ⟨hBb, hP⟩ := h
  have hsz : Calls Try.prog 69 #[.int .i64 4] w fun e w' => e = .returned (.bool true) ∧ w' = w := rsize_any w 4 (by decide)
  have hput : Calls Try.prog 70 #[.int .u64 v, .int .i64 4] w.drew (StrPost w.drew (putB v 4)) := rPut_any w.drew v 4 (by omega) (by decide)
  have hwu : IntKind.u64.wrap (v : Int) = (v : Int) := by rw [IntKind.wrap_u64]; omega
  have hv0 : (0 : Int) ≤ v := by omega
  have hv1 : (v : Int) ≤ 4294967296 - 1 := by omega
  have hl0 : (⟨bs.toArray⟩ : ByteArray).size = bs.length := by show bs.toArray.size = _; simp
  have hbl : b < w.heap.size := cell_lt hP.c0
  have HP := Lib.hid hP
  obtain ⟨c0, c1, f0, f1⟩ := hP
  have hnl : ¬ (9223372036854775807 < bs.length + (putB v 4).length) := by rw [putB_length]; omega
  have Hv := Lib.hid hv
  clear hv
  go_enter Try.func51, Try.ntmps51
  go_wp2_with fail
  refine hsz.mono ?_
  clear hsz
  rintro e w1 ⟨rfl, rfl⟩
  go_wp2_with fail
  go_region_law
    (first
      | (go_simp; go_at_call 70; (with_reducible refine hput.mono ?_); rintro e w2 ⟨rfl, hB2⟩; have hc2 := below_at hB2 (show World.cell? w1.drew _ = _ from c0) hbl; have hf2 := (hB2.frozen (p := ⟨b, 0, none⟩) hbl).trans f0))
  all_goals go_wp2_with fail
  all_goals go_end0
  all_goals
    have hz2 : w1.heap.size ≤ w2.heap.size := hB2.size
    have hBw2 : Below w1.heap.size w1 w2 := below_drew hB2
    have hP2 := HP.out.keep hBw2
    refine ⟨rfl, ⟨hBb, by rw [strcat]; go_simp, ?_, ?_, ?_⟩, Below.setCell (hBw2.mono hBw) (by show B ≤ b; exact hBb) _⟩
    · have := hP2.c1; go_simp
    · have := hP2.f0; go_simp
    · have := hP2.f1; go_simp
set_option maxRecDepth 100000 in
set_option maxHeartbeats 1000000 in
theorem rpNum1 (w : World) (B b : Nat) (bs : List UInt8) (v : Nat) (hv : v < 256) (h : PkAtR B b bs w) (hlen : bs.length ≤ 900000) (hBw : B ≤ w.heap.size) :
    Calls Try.prog 51 #[.pointer (some ⟨b, 0, none⟩), .int .i64 v, .int .i64 1] w (PkPostR w B b (bs ++ putB v 1)) := by
  obtain ⟨hBb, hP⟩ := h
  have hsz : Calls Try.prog 69 #[.int .i64 1] w fun e w' => e = .returned (.bool true) ∧ w' = w := rsize_any w 1 (by decide)
  have hput : Calls Try.prog 70 #[.int .u64 v, .int .i64 1] w.drew (StrPost w.drew (putB v 1)) := rPut_any w.drew v 1 (by omega) (by decide)
  have hwu : IntKind.u64.wrap (v : Int) = (v : Int) := by rw [IntKind.wrap_u64]; omega
  have hv0 : (0 : Int) ≤ v := by omega
  have hv1 : (v : Int) ≤ 256 - 1 := by omega
  have hl0 : (⟨bs.toArray⟩ : ByteArray).size = bs.length := by show bs.toArray.size = _; simp
  have hbl : b < w.heap.size := cell_lt hP.c0
  have HP := Lib.hid hP
  obtain ⟨c0, c1, f0, f1⟩ := hP
  have hnl : ¬ (9223372036854775807 < bs.length + (putB v 1).length) := by rw [putB_length]; omega
  have Hv := Lib.hid hv
  clear hv
  go_enter Try.func51, Try.ntmps51
  go_wp2_with fail
  refine hsz.mono ?_
  clear hsz
  rintro e w1 ⟨rfl, rfl⟩
  go_wp2_with fail
  go_region_law
    (first
      | (go_simp; go_at_call 70; (with_reducible refine hput.mono ?_); rintro e w2 ⟨rfl, hB2⟩; have hc2 := below_at hB2 (show World.cell? w1.drew _ = _ from c0) hbl; have hf2 := (hB2.frozen (p := ⟨b, 0, none⟩) hbl).trans f0))
  all_goals go_wp2_with fail
  all_goals go_end0
  all_goals
    have hz2 : w1.heap.size ≤ w2.heap.size := hB2.size
    have hBw2 : Below w1.heap.size w1 w2 := below_drew hB2
    have hP2 := HP.out.keep hBw2
    refine ⟨rfl, ⟨hBb, by rw [strcat]; go_simp, ?_, ?_, ?_⟩, Below.setCell (hBw2.mono hBw) (by show B ≤ b; exact hBb) _⟩
    · have := hP2.c1; go_simp
    · have := hP2.f0; go_simp
    · have := hP2.f1; go_simp
set_option maxRecDepth 100000 in
set_option maxHeartbeats 1000000 in
theorem rpDone_ok (w : World) (B b : Nat) (l : List UInt8) (h : PkAtR B b l w) (hl : l.length ≤ 65536) :
    Calls Try.prog 52 #[.pointer (some ⟨b, 0, none⟩)] w fun e w' => e = .returned (.tuple #[.string ⟨l.toArray⟩, .int .i64 0]) ∧ Below w.heap.size w w' := by
  obtain ⟨hBb, c0, c1, f0, f1⟩ := h
  have hsz : (⟨l.toArray⟩ : ByteArray).size = l.length := by show l.toArray.size = _; simp
  have hl' : (l.length : Int) ≤ 65536 := by omega
  go_enter Try.func52, Try.ntmps52
  go_wp2_with fail
  go_ret2
  exact ⟨rfl, Below.refl _ _⟩
end Go.Proofs.Ytchidgpaejkaiaa
