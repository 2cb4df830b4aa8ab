import Derived.Test.YtpiogibkleaaaaaGreatDoorSt10
import Derived.Test.YtpiogibkleaaaaaGreatDoorR10
/- a state that nobody made -/
namespace Go.Proofs.YtpiogibkleaaaaaGreatDoor
open Go.RowKit Esch

def NilPost (w : World) (v : Value) (e : Ending) (w' : World) : Prop := e = .returned v ∧ Below w.heap.size w w'
theorem stApply_nil (w : World) (addr kind : Int) (text : ByteArray) : Calls Tryz.prog 13 #[.pointer none, .int .i64 addr, .int .i64 kind, .string text] w (NilPost w (.tuple #[.agg #[.int .i64 0, .int .i64 0], .bool false, .int .i64 1])) := by
  go_enter Tryz.func13, Tryz.ntmps13
  go_wp2_with fail
  refine bodyPost_ret (v := .tuple #[.agg #[.int .i64 0, .int .i64 0], .bool false, .int .i64 1]) (by simp [results, Tryz.results13, go_sem, *]) rfl ?_
  exact ⟨rfl, by exact belC (Below.refl _ _)⟩
theorem stNext_nil (w : World) : Calls Tryz.prog 14 #[.pointer none] w (NilPost w (.int .i64 0)) := by
  go_enter Tryz.func14, Tryz.ntmps14
  go_wp2_with fail
  go_ret
  exact ⟨rfl, by exact belC (Below.refl _ _)⟩
theorem stTree_nil (w : World) : Calls Tryz.prog 15 #[.pointer none] w (NilPost w (.pointer none)) := by
  go_enter Tryz.func15, Tryz.ntmps15
  go_wp2_with fail
  go_ret
  exact ⟨rfl, by exact belC (Below.refl _ _)⟩
theorem stHandles_nil (w : World) : Calls Tryz.prog 16 #[.pointer none] w (NilPost w (.pointer none)) := by
  go_enter Tryz.func16, Tryz.ntmps16
  go_wp2_with fail
  go_ret
  exact ⟨rfl, by exact belC (Below.refl _ _)⟩
theorem stOnce_nil (w : World) : Calls Tryz.prog 17 #[.pointer none] w (NilPost w (.pointer none)) := by
  go_enter Tryz.func17, Tryz.ntmps17
  go_wp2_with fail
  go_ret
  exact ⟨rfl, by exact belC (Below.refl _ _)⟩
theorem stLoad_nil (w : World) (d : Array Value) : Calls Tryz.prog 19 #[.pointer none, .agg d] w (NilPost w (.int .i64 1)) := by
  go_enter Tryz.func19, Tryz.ntmps19
  go_wp2_with fail
  refine bodyPost_ret (v := .int .i64 1) (by simp [results, Tryz.results19, go_sem, *]) rfl ?_
  exact ⟨rfl, by exact belC (Below.refl _ _)⟩
set_option maxRecDepth 100000 in
set_option maxHeartbeats 2000000 in
theorem largeOp_any (w : World) (x : OpS) : Calls Tryz.prog 38 #[.agg x.cells.toArray] w (NilPost w (.bool (decide (2000 < x.path.length) || (decide (2000 < x.dest.length) || (decide (5000 < x.data.size) || decide (100 < x.ml)))))) := by
  obtain ⟨xc, xs, xk, p, q, xz, xh, xo, xt, xi, xn, mp, ml, mc⟩ := x
  simp only [OpS.cells]
  by_cases h1 : 2000 < p.length
  · have h1' : (2000 : Int) < (p.length : Int) := by omega
    rw [decide_eq_true h1, Bool.true_or]
    clear h1
    go_enter Tryz.func38, Tryz.ntmps38
    go_wp2_with fail
    go_ret
    exact ⟨rfl, by exact belC (Below.refl _ _)⟩
  have h1' : ¬ ((2000 : Int) < (p.length : Int)) := by omega
  rw [decide_eq_false h1, Bool.false_or]
  clear h1
  by_cases h2 : 2000 < q.length
  · have h2' : (2000 : Int) < (q.length : Int) := by omega
    rw [decide_eq_true h2, Bool.true_or]
    clear h2
    go_enter Tryz.func38, Tryz.ntmps38
    go_wp2_with fail
    go_ret
    exact ⟨rfl, by exact belC (Below.refl _ _)⟩
  have h2' : ¬ ((2000 : Int) < (q.length : Int)) := by omega
  rw [decide_eq_false h2, Bool.false_or]
  clear h2
  by_cases h3 : 5000 < xt.size
  · have h3' : (5000 : Int) < (xt.size : Int) := by omega
    rw [decide_eq_true h3, Bool.true_or]
    clear h3
    go_enter Tryz.func38, Tryz.ntmps38
    go_wp2_with fail
    go_ret
    exact ⟨rfl, by exact belC (Below.refl _ _)⟩
  have h3' : ¬ ((5000 : Int) < (xt.size : Int)) := by omega
  rw [decide_eq_false h3, Bool.false_or]
  clear h3
  by_cases h4 : 100 < ml
  · have h4' : (100 : Int) < (ml : Int) := by omega
    rw [decide_eq_true h4]
    clear h4
    go_enter Tryz.func38, Tryz.ntmps38
    go_wp2_with fail
    go_ret
    exact ⟨rfl, by exact belC (Below.refl _ _)⟩
  · have h4' : ¬ ((100 : Int) < (ml : Int)) := by omega
    rw [decide_eq_false h4]
    clear h4
    go_enter Tryz.func38, Tryz.ntmps38
    go_wp2_with fail
    go_ret
    exact ⟨rfl, by exact belC (Below.refl _ _)⟩
end Go.Proofs.YtpiogibkleaaaaaGreatDoor
/- the law StateNone's own helpers: text of any record, Rec.Of, Fair of one -/
namespace Go.Proofs.YtpiogibkleaaaaaGreatDoor
open Go.RowKit Esch

set_option linter.unusedSimpArgs false
def TextAny (w : World) (e : Ending) (w' : World) : Prop := ∃ t : ByteArray, e = .returned (.string t) ∧ Below w.heap.size w w'
set_option maxRecDepth 100000 in
set_option maxHeartbeats 2000000 in
theorem text25_some (w : World) (x : OpS) (henc : ∀ W, Below w.heap.size w W → Calls Tryz.prog 54 #[.agg x.cells.toArray] W (EncAny W)) :
    Calls Tryz.prog 22 #[.agg x.cells.toArray] w (TextAny w) := by
  obtain ⟨xc, xs, xk, p, q, xz, xh, xo, xt, xi, xn, mp, ml, mc⟩ := x
  simp only [OpS.cells] at henc ⊢
  go_enter Tryz.func22, Tryz.ntmps22
  go_wp2_with fail
  refine (henc _ (by exact belC (Below.refl _ _))).mono ?_
  rintro e w2 ⟨l, ec, rfl, hB2⟩
  have hB : Below w.heap.size w w2 := (show Below w.heap.size w (w.alloc _) by exact belC (Below.refl _ _)).trans (hB2.mono (by simp))
  clear hB2
  go_wp2_with fail
  go_ret
  exact ⟨bs l, rfl, hB⟩
def recCells (x : OpS) (t : ByteArray) (raw junk : Bool) : List Value := x.cells ++ [.string t, .bool raw, .bool junk]
def OfPost (w : World) (e : Ending) (w' : World) : Prop := ∃ (k : Int) (t : ByteArray), e = .returned (.tuple #[.int .i64 k, .string t]) ∧ Below w.heap.size w w'
set_option maxRecDepth 100000 in
set_option maxHeartbeats 4000000 in
theorem of25_any (w : World) (x : OpS) (t : ByteArray) (raw junk : Bool) (henc : ∀ W, Below w.heap.size w W → Calls Tryz.prog 54 #[.agg x.cells.toArray] W (EncAny W)) :
    Calls Tryz.prog 12 #[.agg (recCells x t raw junk).toArray] w (OfPost w) := by
  have htx : ∀ W, Below w.heap.size w W → Calls Tryz.prog 22 #[.agg x.cells.toArray] W (TextAny W) := fun W hB => text25_some W x fun W' hB' => henc W' (hB.trans (hB'.mono hB.size))
  clear henc
  obtain ⟨xc, xs, xk, p, q, xz, xh, xo, xt, xi, xn, mp, ml, mc⟩ := x
  simp only [recCells, OpS.cells, List.cons_append, List.nil_append] at htx ⊢
  obtain ⟨W1, hW1⟩ : ∃ W1, W1 = w.alloc (.cells #[.int .i64 xc, .int .i64 xs, .int .i64 xk, .string (bs p), .string (bs q), .int .i64 xz, .int .i64 xh, .int .i64 xo, .string xt, .int .i64 xi, .int .i64 xn, .slice mp ml mc, .string t, .bool raw, .bool junk] 43) := ⟨_, rfl⟩
  have hB1 : Below w.heap.size w W1 := by rw [hW1]; exact belC (Below.refl _ _)
  have HB1 := Lib.hid hB1
  cases junk
  · cases raw
    · have HW1 := Lib.hid hW1
      clear hW1 hB1
      go_enter Tryz.func12, Tryz.ntmps12
      go_wp2_with fail
      rw [← HW1.out]
      refine (htx _ HB1.out).mono ?_
      rintro e w2 ⟨t2, rfl, hB2⟩
      have HB2 := Lib.hid (HB1.out.trans (hB2.mono HB1.out.size))
      clear hB2
      go_wp2_with fail
      go_ret2
      exact ⟨1, t2, rfl, HB2.out⟩
    · clear htx hW1 hB1 HB1
      go_enter Tryz.func12, Tryz.ntmps12
      go_wp2_with fail
      go_region
      all_goals
        go_wp2_with fail
        go_ret2
        exact ⟨1, t, rfl, by exact belC (Below.refl _ _)⟩
  · clear htx hW1 hB1 HB1
    go_enter Tryz.func12, Tryz.ntmps12
    go_wp2_with fail
    go_ret2
    exact ⟨2, ⟨#[]⟩, rfl, by exact belC (Below.refl _ _)⟩
def FrRel (w : World) (r : Bool) (g : Nat) (v : Value) (wr : World) : Prop := ∃ i : Nat, g = 1 - i ∧ i ≤ 1 ∧ v = .int .i64 i ∧ Below w.heap.size w wr ∧ (i = 1 → r = true)
def fairB (x : OpS) (t : ByteArray) : Bool := !((decide (2000 < x.path.length) || (decide (2000 < x.dest.length) || (decide (5000 < x.data.size) || decide (100 < x.ml)))) || decide (6000 < t.size))
set_option maxRecDepth 100000 in
set_option maxHeartbeats 4000000 in
theorem fair25_one (w : World) (b : Nat) (x : OpS) (t : ByteArray) (raw junk : Bool) (hc : ∀ i, i < 15 → w.cell? ⟨b, i, none⟩ = (recCells x t raw junk)[i]?) :
    Calls Tryz.prog 11 #[.slice (some ⟨b, 0, none⟩) 1 1] w fun e w' => e = .returned (.bool (fairB x t)) ∧ Below w.heap.size w w' := by
  unfold fairB
  have hlg := fun W => largeOp_any W x
  obtain ⟨bad, hbd⟩ : ∃ bad, bad = (decide (2000 < x.path.length) || (decide (2000 < x.dest.length) || (decide (5000 < x.data.size) || decide (100 < x.ml)))) := ⟨_, rfl⟩
  rw [← hbd] at hlg ⊢
  clear hbd
  obtain ⟨xc, xs, xk, p, q, xz, xh, xo, xt, xi, xn, mp, ml, mc⟩ := x
  simp only [OpS.cells] at hlg
  have z0 : w.cell? ⟨b, 0, none⟩ = some (.int .i64 xc) := hc 0 (by decide)
  have z1 : w.cell? ⟨b, 1, none⟩ = some (.int .i64 xs) := hc 1 (by decide)
  have z2 : w.cell? ⟨b, 2, none⟩ = some (.int .i64 xk) := hc 2 (by decide)
  have z3 : w.cell? ⟨b, 3, none⟩ = some (.string (bs p)) := hc 3 (by decide)
  have z4 : w.cell? ⟨b, 4, none⟩ = some (.string (bs q)) := hc 4 (by decide)
  have z5 : w.cell? ⟨b, 5, none⟩ = some (.int .i64 xz) := hc 5 (by decide)
  have z6 : w.cell? ⟨b, 6, none⟩ = some (.int .i64 xh) := hc 6 (by decide)
  have z7 : w.cell? ⟨b, 7, none⟩ = some (.int .i64 xo) := hc 7 (by decide)
  have z8 : w.cell? ⟨b, 8, none⟩ = some (.string xt) := hc 8 (by decide)
  have z9 : w.cell? ⟨b, 9, none⟩ = some (.int .i64 xi) := hc 9 (by decide)
  have z10 : w.cell? ⟨b, 10, none⟩ = some (.int .i64 xn) := hc 10 (by decide)
  have z11 : w.cell? ⟨b, 11, none⟩ = some (.slice mp ml mc) := hc 11 (by decide)
  have z12 : w.cell? ⟨b, 12, none⟩ = some (.string t) := hc 12 (by decide)
  clear hc
  have hol := cell_lt z0
  have HZ : Hid (∀ wr, Below w.heap.size w wr → wr.cell? ⟨b, 0, none⟩ = some (.int .i64 xc) ∧ wr.cell? ⟨b, 1, none⟩ = some (.int .i64 xs) ∧ wr.cell? ⟨b, 2, none⟩ = some (.int .i64 xk) ∧ wr.cell? ⟨b, 3, none⟩ = some (.string (bs p)) ∧ wr.cell? ⟨b, 4, none⟩ = some (.string (bs q)) ∧ wr.cell? ⟨b, 5, none⟩ = some (.int .i64 xz) ∧ wr.cell? ⟨b, 6, none⟩ = some (.int .i64 xh) ∧ wr.cell? ⟨b, 7, none⟩ = some (.int .i64 xo) ∧ wr.cell? ⟨b, 8, none⟩ = some (.string xt) ∧ wr.cell? ⟨b, 9, none⟩ = some (.int .i64 xi) ∧ wr.cell? ⟨b, 10, none⟩ = some (.int .i64 xn) ∧ wr.cell? ⟨b, 11, none⟩ = some (.slice mp ml mc) ∧ wr.cell? ⟨b, 12, none⟩ = some (.string t)) := Lib.hid (fun wr hB => ⟨below_at hB z0 hol, below_at hB z1 hol, below_at hB z2 hol, below_at hB z3 hol, below_at hB z4 hol, below_at hB z5 hol, below_at hB z6 hol, below_at hB z7 hol, below_at hB z8 hol, below_at hB z9 hol, below_at hB z10 hol, below_at hB z11 hol, below_at hB z12 hol⟩)
  clear z0 z1 z2 z3 z4 z5 z6 z7 z8 z9 z10 z11 z12
  have hsz : (6000 : Int) < (t.size : Int) ∨ ¬ ((6000 : Int) < (t.size : Int)) := by omega
  have hdc : decide (6000 < t.size) = decide ((6000 : Int) < (t.size : Int)) := by congr 1; simp; omega
  rw [hdc]
  clear hdc
  obtain ⟨res, hres⟩ : ∃ res, res = (!(bad || decide ((6000 : Int) < (t.size : Int)))) := ⟨_, rfl⟩
  rw [← hres]
  have HRES := Lib.hid hres
  clear hres
  go_enter Tryz.func11, Tryz.ntmps11
  go_wp2_with fail
  go_loopg [3] 1 (fun g v wr => FrRel w res g v wr)
  case atStart => exact ⟨0, rfl, by decide, rfl, Below.refl _ _, fun h => by cases h⟩
  case round =>
    obtain ⟨i, hg, hi, hv, hB, hr⟩ := hrel
    subst hg
    have HBr := Lib.hid hB
    have HR := Lib.hid hr
    clear hr
    obtain ⟨z0, z1, z2, z3, z4, z5, z6, z7, z8, z9, z10, z11, z12⟩ := HZ.out wr hB
    clear hB
    have hcs : i = 0 ∨ i = 1 := by omega
    clear hi
    rcases hcs with rfl | rfl
    · replace hv : _ = Value.int .i64 (0 : Int) := hv
      subst hv
      have hol' := cell_lt z0
      go_wp2_with fail
      refine (hlg wr).mono ?_
      rintro e w2 ⟨rfl, hB2⟩
      obtain ⟨y0, y1, y2, y3, y4, y5, y6, y7, y8, y9, y10, y11, y12⟩ := HZ.out w2 (HBr.out.trans (hB2.mono HBr.out.size))
      have HB2 := Lib.hid (HBr.out.trans (hB2.mono HBr.out.size))
      clear hB2 z0 z1 z2 z3 z4 z5 z6 z7 z8 z9 z10 z11 z12
      cases bad
      · rcases hsz with h1 | h1
        · obtain rfl : res = false := by rw [HRES.out, decide_eq_true h1]; rfl
          clear HRES HR
          go_wp2_with fail
          go_ret
          exact ⟨rfl, HB2.out⟩
        · have HRT : Hid (res = true) := Lib.hid (by rw [HRES.out, decide_eq_false (by omega)]; rfl)
          clear HRES HR
          go_wp2_with fail
          go_roundg 0
          case measure => decide
          case rel => exact ⟨1, rfl, by decide, rfl, HB2.out, fun _ => HRT.out⟩
      · obtain rfl : res = false := by rw [HRES.out]; rfl
        clear HRES HR
        go_wp2_with fail
        go_ret
        exact ⟨rfl, HB2.out⟩
    · replace hv : _ = Value.int .i64 (1 : Int) := hv
      subst hv
      obtain rfl : res = true := HR.out rfl
      clear HRES HR
      go_wp2_with fail
      go_ret
      exact ⟨rfl, HBr.out⟩
end Go.Proofs.YtpiogibkleaaaaaGreatDoor
