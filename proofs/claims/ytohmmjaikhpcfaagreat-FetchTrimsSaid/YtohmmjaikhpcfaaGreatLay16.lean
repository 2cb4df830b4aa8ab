/- what is laid ahead of a fetch -/
import Derived.Test.YtohmmjaikhpcfaaGreatFetP
import Derived.Test.YtohmmjaikhpcfaaGreatRPlace
import Derived.Test.YtohmmjaikhpcfaaGreatReadApi
namespace Go.Proofs.YtohmmjaikhpcfaaGreat
open Go.RowKit Esch

/-- writes, or fills, of an address's first units -/
structure PutS where
  addr : Int
  units : Int
  fill : Bool
  s : ByteArray
instance : Inhabited PutS := ⟨⟨0, 0, false, ⟨#[]⟩⟩⟩
def PutS.cells (p : PutS) : List Value := [.int .i64 p.addr, .int .i64 p.units, .bool p.fill, .string p.s]
def tyPut : Ty := .struct [.int .i64, .int .i64, .bool, .str]
theorem rd_put {w : World} {cs : List Value} {d : D} (h : Rd w tyPut cs d) : ∃ p : PutS, cs = p.cells ∧ p.s.size ≤ 9223372036854775807 := by
  simp only [tyPut, rd_struct, rds_cons, rds_nil, rd_int, rd_str, rd_bool] at h
  obtain ⟨ds, rfl, c0, r0, d0, s0, rfl, rfl, -, ⟨k, rfl, rfl, -⟩, c1, r1, d1, s1, rfl, rfl, -, ⟨u, rfl, rfl, -⟩, c2, r2, d2, s2, rfl, rfl, -, ⟨b, rfl, rfl⟩, c3, r3, d3, s3, rfl, rfl, -, ⟨s, rfl, rfl, hs⟩, rfl, rfl⟩ := h
  exact ⟨⟨k, u, b, s⟩, rfl, by unfold Go.maxLen at hs; omega⟩
def PutsAt (w : World) (oa : Option Addr) (n : Nat) (ps : Nat → PutS) : Prop :=
  0 < n → ∃ b off, oa = some ⟨b, off, none⟩ ∧ b < w.heap.size ∧ ∀ i, i < n → (ps i).s.size ≤ 9223372036854775807 ∧ ∀ j v, (ps i).cells[j]? = some v → w.cell? ⟨b, off + i * 4 + j, none⟩ = some v
theorem rd_puts {w : World} {cs : List Value} {d : D} (h : Rd w (.slice tyPut) cs d) : ∃ (oa : Option Addr) (n cap : Nat) (ps : Nat → PutS), cs.headD undef = .slice oa n cap ∧ n ≤ 9223372036854775807 ∧ PutsAt w oa n ps := by
  obtain ⟨l, f, rfl, ⟨a0, cap, hv, -, hn, hc⟩, hl⟩ := rd_sliceAt h
  obtain ⟨xs, hxl, hx⟩ := choose_list l.length (fun i (x : PutS) => f i = x.cells ∧ x.s.size ≤ 9223372036854775807) (fun i hi => rd_put (hl i hi))
  refine ⟨a0, l.length, cap, fun i => xs.getD i default, hv, hn, fun h0 => ?_⟩
  obtain ⟨b, off, rfl, hb, hcell⟩ := hc h0 (by decide)
  refine ⟨b, off, rfl, hb, fun i hi => ?_⟩
  obtain ⟨h1, h2⟩ := hx i hi
  refine ⟨h2, fun j v hj => ?_⟩
  have hj4 : j < 4 := (List.getElem?_eq_some_iff.1 hj).1
  have := hcell i hi j (by show j < 4; omega)
  rw [h1, hj] at this
  rw [← this]
  rfl
theorem PutsAt.get {w : World} {oa : Option Addr} {n k : Nat} {ps : Nat → PutS} (h : PutsAt w oa n ps) (hk : k < n) : ∃ b off, oa = some ⟨b, off, none⟩ ∧ b < w.heap.size ∧ (ps k).s.size ≤ 9223372036854775807 ∧
    w.cell? ⟨b, off + k * 4, none⟩ = some (.int .i64 (ps k).addr) ∧ w.cell? ⟨b, off + k * 4 + 1, none⟩ = some (.int .i64 (ps k).units) ∧ w.cell? ⟨b, off + k * 4 + 2, none⟩ = some (.bool (ps k).fill) ∧ w.cell? ⟨b, off + k * 4 + 3, none⟩ = some (.string (ps k).s) := by
  obtain ⟨b, off, e, hb, hc⟩ := h (by omega)
  obtain ⟨h1, h3⟩ := hc k hk
  exact ⟨b, off, e, hb, h1, h3 0 _ rfl, h3 1 _ rfl, h3 2 _ rfl, h3 3 _ rfl⟩
def Fair16Rel (w : World) (ps : Nat → PutS) (n g : Nat) (s3 : Value) (wr : World) : Prop := ∃ k : Nat, g = n - k ∧ k ≤ n ∧ s3 = .int .i64 k ∧ (∀ i, i < k → (ps i).s.size ≤ 1000) ∧ wr = w
set_option maxHeartbeats 1000000 in
theorem fair16_any (oa : Option Addr) (n cap : Nat) (ps : Nat → PutS) (hn : n ≤ 9223372036854775807) (w : World) (h : PutsAt w oa n ps) :
    Calls Tryz.prog 33 #[.slice oa n cap] w fun e w' => ∃ f, e = .returned (.bool f) ∧ (f = true → ∀ i, i < n → (ps i).s.size ≤ 1000) ∧ w' = w := by
  have H := Lib.hid h
  clear h
  go_enter Tryz.func33, Tryz.ntmps33
  go_wp2_with fail
  go_loopg [3] n (fun g s3 wr => Fair16Rel w ps n g s3 wr)
  case atStart => exact ⟨0, rfl, Nat.zero_le _, rfl, fun i hi => absurd hi (by omega), rfl⟩
  case round =>
    obtain ⟨k, rfl, hk, rfl, hfa, rfl⟩ := hrel
    have Hfa := Lib.hid hfa
    clear hfa
    by_cases hlt : k < n
    · obtain ⟨b, off, rfl, hb, hd, c0, c1, c2, c3⟩ := H.out.get hlt
      have k0 : (0 : Int) ≤ k := by omega
      have k1 : (k : Int) < n := by omega
      by_cases hl : 1000 < (ps k).s.size
      · have hl' : (1000 : Int) < (ps k).s.size := by omega
        clear hl
        go_wp2_with fail
        go_ret
        exact ⟨false, rfl, fun h => (by cases h), rfl⟩
      · have hl' : ((ps k).s.size : Int) ≤ 1000 := by omega
        have Hl := Lib.hid hl
        clear hl
        go_wp2_with fail
        go_roundg (n - (k + 1))
        case measure => omega
        case rel =>
          refine ⟨k + 1, rfl, by omega, by go_num, fun i hi => ?_, rfl⟩
          by_cases hi' : i < k
          · exact Hfa.out i hi'
          · obtain rfl : i = k := by omega
            have := Hl.out
            omega
    · have hge : n ≤ k := by omega
      obtain rfl : k = n := by omega
      clear hlt
      go_wp2_with fail
      go_ret
      exact ⟨true, rfl, fun _ => Hfa.out, rfl⟩
set_option maxHeartbeats 1000000 in
theorem kmod_any (k : Int) (w : World) : Calls Tryz.prog 36 #[.int .i64 k, .int .i64 40] w fun e w' => ∃ a : Nat, a < 40 ∧ e = .returned (.int .i64 a) ∧ w' = w := by
  have hm0 : -40 < k.tmod 40 := by have := Int.lt_tmod_of_pos k (show (0 : Int) < 40 by decide); omega
  have hm1 : k.tmod 40 < 40 := Int.tmod_lt_of_pos k (by decide)
  go_enter Tryz.func36, Tryz.ntmps36
  go_wp2_with fail
  go_ret
  generalize k.tmod 40 = t at *
  exact ⟨((t + 40) % 40).toNat, by omega, by show Ending.returned (.int .i64 ((t + 40) % 40)) = _; rw [Int.toNat_of_nonneg (by omega)], rfl⟩
def ThreePost (w : World) (e : Ending) (w' : World) : Prop := ∃ b, e = .returned (.agg #[.int .i64 0, .slice (some ⟨b, 0, none⟩) 3 3]) ∧ ListsAt (From w.heap.size) w' (some ⟨b, 0, none⟩) qT.chains ∧ Below w.heap.size w w'
set_option maxHeartbeats 1000000 in
theorem three_any (w : World) : Calls Tryz.prog 32 #[] w (ThreePost w) := by
  go_enter Tryz.func32, Tryz.ntmps32
  go_wp2_with fail
  refine bodyPost_ret (v := .agg #[.int .i64 0, .slice (some ⟨w.heap.size + 1 + 1 + 1 + 1, 0, none⟩) 3 3]) (by simp only [results, Tryz.results32]; go_simp) rfl ?_
  refine ⟨_, rfl, ⟨by simp, fun _ => ⟨_, 0, rfl, by show w.heap.size ≤ _; omega, by simp, fun i hi => ?_⟩⟩, by (repeat (first | with_reducible exact (Below.refl _ _) | with_reducible refine Below.drew ?_ | with_reducible refine Esch.below_drewN ?_ _ | with_reducible refine Below.setCell ?_ (by first | omega | (simp; done) | (simp; omega)) _ | with_reducible refine Below.alloc ?_ (by first | omega | (simp; done) | (simp; omega)) _))⟩
  simp only [List.length_cons, List.length_nil] at hi
  have : i = 0 ∨ i = 1 ∨ i = 2 := by omega
  rcases this with rfl | rfl | rfl
  · refine ⟨some ⟨w.heap.size + 1, 0, none⟩, 3, by go_simp, ⟨by simp, fun _ => ⟨w.heap.size + 1, 0, rfl, by show w.heap.size ≤ _; omega, by simp only [World.size_alloc]; omega, fun j hj => ?_⟩⟩, by simp, by omega⟩
    simp only [List.getD_cons_zero, List.length_cons, List.length_nil] at hj
    have : j = 0 ∨ j = 1 ∨ j = 2 := by omega
    rcases this with rfl | rfl | rfl
    · go_simp
    · go_simp
    · go_simp
  · refine ⟨some ⟨w.heap.size + 1 + 1, 0, none⟩, 2, by go_simp, ⟨by simp, fun _ => ⟨w.heap.size + 1 + 1, 0, rfl, by show w.heap.size ≤ _; omega, by simp only [World.size_alloc]; omega, fun j hj => ?_⟩⟩, by simp, by omega⟩
    simp only [List.getD_cons_succ, List.getD_cons_zero, List.length_cons, List.length_nil] at hj
    have : j = 0 ∨ j = 1 := by omega
    rcases this with rfl | rfl
    · go_simp
    · go_simp
  · refine ⟨some ⟨w.heap.size + 1 + 1 + 1, 0, none⟩, 1, by go_simp, ⟨by simp, fun _ => ⟨w.heap.size + 1 + 1 + 1, 0, rfl, by show w.heap.size ≤ _; omega, by simp only [World.size_alloc]; omega, fun j hj => ?_⟩⟩, by simp, by omega⟩
    simp only [List.getD_cons_succ, List.getD_cons_zero, List.length_cons, List.length_nil] at hj
    obtain rfl : j = 0 := by omega
    go_simp
end Go.Proofs.YtohmmjaikhpcfaaGreat
