/- a dump as an argument, its numbers int64 -/
import Derived.Test.YtmnkackkeppheaaGreatRdRow
import Derived.Test.YtmnkackkeppheaaGreatImBack
namespace Go.Proofs.YtmnkackkeppheaaGreat
open Go.RowKit Esch
theorem i64_of {n : Int} (h : IntKind.i64.min ≤ n ∧ n ≤ IntKind.i64.max) : I64 n := by
  have h1 : IntKind.i64.min = -9223372036854775808 := by decide
  have h2 : IntKind.i64.max = 9223372036854775807 := by decide
  rw [h1, h2] at h
  exact ⟨h.1, by omega⟩
theorem i64_zero : I64 0 := ⟨by decide, by decide⟩
end Go.Proofs.YtmnkackkeppheaaGreat
namespace Esch
open Go Go.RowKit Go.Proofs.YtmnkackkeppheaaGreat
def tyI : Ty := .int .i64
theorem rds_ints {w : World} : ∀ (n : Nat) {cs : List Value} {ds : List D}, Rds w (List.replicate n tyI) cs ds → ∃ l : List Int, l.length = n ∧ cs = l.map (Value.int .i64) ∧ ∀ v ∈ l, I64 v
  | 0, cs, ds, h => by
    obtain ⟨rfl, -⟩ := rds_nil.1 h
    exact ⟨[], rfl, rfl, fun v hv => (by cases hv)⟩
  | n + 1, cs, ds, h => by
    rw [List.replicate_succ] at h
    obtain ⟨c, r, d, s, rfl, rfl, -, h1, h2⟩ := rds_cons.1 h
    obtain ⟨x, rfl, -, hm⟩ := rd_int.1 h1
    obtain ⟨l, hl, rfl, hs⟩ := rds_ints n h2
    refine ⟨x :: l, by simp [hl], rfl, fun v hv => ?_⟩
    rcases List.mem_cons.1 hv with rfl | hv
    · exact i64_of hm
    · exact hs v hv
def tyTwo : Ty := .struct [tyI, tyI]
theorem rds_twos {w : World} : ∀ (n : Nat) {cs : List Value} {ds : List D}, Rds w (List.replicate n tyTwo) cs ds → ∃ l : List Int, l.length = 2 * n ∧ cs = l.map (Value.int .i64) ∧ ∀ v ∈ l, I64 v
  | 0, cs, ds, h => by
    obtain ⟨rfl, -⟩ := rds_nil.1 h
    exact ⟨[], rfl, rfl, fun v hv => (by cases hv)⟩
  | n + 1, cs, ds, h => by
    rw [List.replicate_succ] at h
    obtain ⟨c, r, d, s, rfl, rfl, -, h1, h2⟩ := rds_cons.1 h
    obtain ⟨e, -, h3⟩ := rd_struct.1 h1
    obtain ⟨p, hp, rfl, hps⟩ := rds_ints 2 h3
    obtain ⟨l, hl, rfl, hs⟩ := rds_twos n h2
    refine ⟨p ++ l, by simp [hl, hp]; omega, by simp, fun v hv => ?_⟩
    rcases List.mem_append.1 hv with hv | hv
    · exact hps v hv
    · exact hs v hv
theorem map8 (l : List Int) (h : l.length = 8) : l.map (Value.int .i64) = [.int .i64 (l.getD 0 0), .int .i64 (l.getD 1 0), .int .i64 (l.getD 2 0), .int .i64 (l.getD 3 0), .int .i64 (l.getD 4 0), .int .i64 (l.getD 5 0), .int .i64 (l.getD 6 0), .int .i64 (l.getD 7 0)] :=
  match l, h with
  | [_, _, _, _, _, _, _, _], _ => rfl
theorem map16 (l : List Int) (h : l.length = 16) : l.map (Value.int .i64) = [.int .i64 (l.getD 0 0), .int .i64 (l.getD 1 0), .int .i64 (l.getD 2 0), .int .i64 (l.getD 3 0), .int .i64 (l.getD 4 0), .int .i64 (l.getD 5 0), .int .i64 (l.getD 6 0), .int .i64 (l.getD 7 0), .int .i64 (l.getD 8 0), .int .i64 (l.getD 9 0), .int .i64 (l.getD 10 0), .int .i64 (l.getD 11 0), .int .i64 (l.getD 12 0), .int .i64 (l.getD 13 0), .int .i64 (l.getD 14 0), .int .i64 (l.getD 15 0)] :=
  match l, h with
  | [_, _, _, _, _, _, _, _, _, _, _, _, _, _, _, _], _ => rfl
def tyPt : Ty := .struct [tyI, tyI, tyI, tyI]
theorem rd_pt {w : World} {cs : List Value} {d : D} (h : Rd w tyPt cs d) : ∃ x : PtS, cs = ptC x ∧ True := by
  obtain ⟨e, -, h1⟩ := rd_struct.1 h
  obtain ⟨l, hl, rfl, -⟩ := rds_ints 4 h1
  match l, hl with
  | [a, b, c, f], _ => exact ⟨⟨a, b, c, f⟩, rfl, trivial⟩
def tyHd : Ty := .struct [tyI, tyI, tyI]
theorem rd_hd {w : World} {cs : List Value} {d : D} (h : Rd w tyHd cs d) : ∃ x : Hd, cs = hdC x ∧ True := by
  obtain ⟨e, -, h1⟩ := rd_struct.1 h
  obtain ⟨l, hl, rfl, -⟩ := rds_ints 3 h1
  match l, hl with
  | [a, b, c], _ => exact ⟨((a, b), c), rfl, trivial⟩
def tyEn : Ty := .struct [tyI, .str, tyI]
theorem rd_en {w : World} {cs : List Value} {d : D} (h : Rd w tyEn cs d) : ∃ x : EqK, cs = enC x ∧ True := by
  obtain ⟨e, -, h1⟩ := rd_struct.1 h
  obtain ⟨c0, r0, d0, s0, rfl, rfl, -, h0, h1⟩ := rds_cons.1 h1
  obtain ⟨c1, r1, d1, s1, rfl, rfl, -, h2, h3⟩ := rds_cons.1 h1
  obtain ⟨c2, r2, d2, s2, rfl, rfl, -, h4, h5⟩ := rds_cons.1 h3
  obtain ⟨rfl, -⟩ := rds_nil.1 h5
  obtain ⟨a, rfl, -⟩ := rd_int.1 h0
  obtain ⟨s, rfl, -⟩ := rd_str.1 h2
  obtain ⟨b, rfl, -⟩ := rd_int.1 h4
  exact ⟨(a, s.data.toList, b), rfl, trivial⟩
def tyIn : Ty := .struct [tyI, tyI, tyI, tyI, tyI, .slice tyPt]
def InQ (w : World) (y : InC) : Prop := PtsAt w (fun _ => True) y.pa y.ps ∧ (y.pa = none → y.pc = 0) ∧ y.ps.length ≤ y.pc ∧ y.pc ≤ 9223372036854775807
theorem rd_in {w : World} {cs : List Value} {d : D} (h : Rd w tyIn cs d) : ∃ x : InC, cs = x.cells ∧ InQ w x := by
  obtain ⟨e, -, h0⟩ := rd_struct.1 h
  obtain ⟨c0, r0, d0, s0, rfl, rfl, -, g0, h1⟩ := rds_cons.1 h0
  obtain ⟨c1, r1, d1, s1, rfl, rfl, -, g1, h2⟩ := rds_cons.1 h1
  obtain ⟨c2, r2, d2, s2, rfl, rfl, -, g2, h3⟩ := rds_cons.1 h2
  obtain ⟨c3, r3, d3, s3, rfl, rfl, -, g3, h4⟩ := rds_cons.1 h3
  obtain ⟨c4, r4, d4, s4, rfl, rfl, -, g4, h5⟩ := rds_cons.1 h4
  obtain ⟨c5, r5, d5, s5, rfl, rfl, -, g5, h6⟩ := rds_cons.1 h5
  obtain ⟨rfl, -⟩ := rds_nil.1 h6
  obtain ⟨x0, rfl, -⟩ := rd_int.1 g0
  obtain ⟨x1, rfl, -⟩ := rd_int.1 g1
  obtain ⟨x2, rfl, -⟩ := rd_int.1 g2
  obtain ⟨x3, rfl, -⟩ := rd_int.1 g3
  obtain ⟨x4, rfl, -⟩ := rd_int.1 g4
  obtain ⟨a, c, l, rfl, hc1, hc2, hn, hrow, -⟩ := rd_rw (size := 4) ptC (fun _ => True) ptC_len rfl (by decide) g5 (fun c d h => rd_pt h)
  exact ⟨⟨x0, x1, x2, x3, x4, a, c, l⟩, rfl, hrow, hn, hc1, hc2⟩
def tyDump : Ty := .struct [tyI, .slice tyIn, tyI, .slice tyEn, .slice tyHd, .struct (List.replicate 8 tyI), .struct (List.replicate 8 tyI), .struct (List.replicate 8 tyTwo)]
theorem getD_i64 {l : List Int} (h : ∀ v ∈ l, I64 v) (k : Nat) : I64 (l.getD k 0) := by
  rw [List.getD_eq_getElem?_getD]
  by_cases hk : k < l.length
  · rw [List.getElem?_eq_getElem hk]; exact h _ (List.getElem_mem hk)
  · rw [List.getElem?_eq_none (by omega)]; exact i64_zero
theorem rd_dump {w : World} {cs : List Value} {d : D} (h : Rd w tyDump cs d) : ∃ x : DmC, cs = x.cells ∧ DmA w x ∧ ∀ k, I64 (x.s k) ∧ I64 (x.r k) := by
  obtain ⟨e, -, h0⟩ := rd_struct.1 h
  obtain ⟨c0, r0, d0, s0, rfl, rfl, -, g0, h1⟩ := rds_cons.1 h0
  obtain ⟨c1, r1, d1, s1, rfl, rfl, -, g1, h2⟩ := rds_cons.1 h1
  obtain ⟨c2, r2, d2, s2, rfl, rfl, -, g2, h3⟩ := rds_cons.1 h2
  obtain ⟨c3, r3, d3, s3, rfl, rfl, -, g3, h4⟩ := rds_cons.1 h3
  obtain ⟨c4, r4, d4, s4, rfl, rfl, -, g4, h5⟩ := rds_cons.1 h4
  obtain ⟨c5, r5, d5, s5, rfl, rfl, -, g5, h6⟩ := rds_cons.1 h5
  obtain ⟨c6, r6, d6, s6, rfl, rfl, -, g6, h7⟩ := rds_cons.1 h6
  obtain ⟨c7, r7, d7, s7, rfl, rfl, -, g7, h8⟩ := rds_cons.1 h7
  obtain ⟨rfl, -⟩ := rds_nil.1 h8
  clear h0 h1 h2 h3 h4 h5 h6 h7 h8
  obtain ⟨x0, rfl, -⟩ := rd_int.1 g0
  obtain ⟨x2, rfl, -⟩ := rd_int.1 g2
  obtain ⟨ia, ic, ik, rfl, -, -, -, hi, hq⟩ := rd_rw (size := 6) InC.cells (InQ w) InC.cells_len rfl (by decide) g1 (fun c d h => rd_in h)
  obtain ⟨na, nc, nl, rfl, -, -, hnn, hn, -⟩ := rd_rw (size := 3) enC (fun _ => True) enC_len rfl (by decide) g3 (fun c d h => rd_en h)
  obtain ⟨ha, hc, hl, rfl, -, -, hhn, hh, -⟩ := rd_rw (size := 3) hdC (fun _ => True) hdC_len rfl (by decide) g4 (fun c d h => rd_hd h)
  obtain ⟨e5, -, k5⟩ := rd_struct.1 g5
  obtain ⟨e6, -, k6⟩ := rd_struct.1 g6
  obtain ⟨e7, -, k7⟩ := rd_struct.1 g7
  obtain ⟨l, l8, rfl, -⟩ := rds_ints 8 k5
  obtain ⟨s, s8, rfl, hs8⟩ := rds_ints 8 k6
  obtain ⟨r, r8, rfl, hr8⟩ := rds_twos 8 k7
  clear g0 g1 g2 g3 g4 g5 g6 g7 k5 k6 k7
  rw [map8 l l8, map8 s s8, map16 r r8]
  exact ⟨⟨x0, ia, ic, ik, x2, na, nc, nl, ha, hc, hl, fun i => l.getD i 0, fun i => s.getD i 0, fun i => r.getD i 0⟩, rfl, ⟨hi, hq, hn, hh, hnn, hhn⟩, fun k => ⟨getD_i64 hs8 k, getD_i64 hr8 k⟩⟩
end Esch
