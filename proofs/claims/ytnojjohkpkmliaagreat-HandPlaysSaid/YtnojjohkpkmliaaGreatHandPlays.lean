/-
  The law HandPlays: questions of any fate, and what becomes of those that are held: each answer, what is held, and how all nodes are.
  Conditions: none.
-/
import Derived.Test.YtnojjohkpkmliaaGreatRSame
import Derived.Test.YtnojjohkpkmliaaGreatMade2
import Derived.Test.YtnojjohkpkmliaaGreatPkH14
import Derived.Test.YtnojjohkpkmliaaGreatHandHeld
import Derived.Test.YtnojjohkpkmliaaGreatPkHand
import Derived.Test.YtnojjohkpkmliaaGreatRow
namespace Go.Proofs.YtnojjohkpkmliaaGreat
open Go.RowKit Esch Go.ChangeShapes Go.WideShapes Go.ChangeAt

theorem small_ofH {ls : List (List Int)} (h : largeProj ls = false) : Small ls := by
  simp only [largeProj, Bool.or_eq_false_iff, decide_eq_false_iff_not, List.any_eq_false, decide_eq_true_eq] at h
  refine ⟨by omega, fun i hi => ?_⟩
  have hmem : ls.getD i [] ∈ ls := by
    rw [List.getD_eq_getElem?_getD, List.getElem?_eq_getElem hi]; exact List.getElem_mem hi
  have := h.2 _ hmem
  omega
theorem lists_belowH {S : Nat → Prop} {w w' : World} {a : Option Addr} {ls : List (List Int)} (h : ListsAt S w a ls) (hB : Below w.heap.size w w') : ListsAt S w' a ls := h.mod (F := none') (Mod.of_below hB) (fun _ _ _ => id)
/-- both hands, in one state -/
structure TwoH (w0 : World) (hb rb c : Nat) (U R : Nat → Prop) (s : HdS) (w : World) : Prop where
  h : ∃ T, T ≤ 16 * (c + 1) ∧ HandAt w hb U T s
  r : ∃ T, T ≤ 16 * (c + 1) ∧ RHAt w0 w rb R T s
  apart : ∀ k, U k → ¬ R k
  old : ∀ k, U k → w0.heap.size ≤ k
  below : Below w0.heap.size w0 w
theorem TwoH.below' {w0 w w' : World} {hb rb c : Nat} {U R : Nat → Prop} {s : HdS} (h : TwoH w0 hb rb c U R s w) (hB : Below w.heap.size w w') : TwoH w0 hb rb c U R s w' := by
  obtain ⟨T, h1, h2⟩ := h.h
  obtain ⟨T', h3, h4⟩ := h.r
  exact ⟨⟨T, h1, h2.below hB⟩, ⟨T', h3, h4.below hB⟩, h.apart, h.old, h.below.trans (hB.mono h.below.size)⟩
theorem TwoH.more {w0 w : World} {hb rb c c' : Nat} {U R : Nat → Prop} {s : HdS} (h : TwoH w0 hb rb c U R s w) (hc : c ≤ c') : TwoH w0 hb rb c' U R s w := by
  obtain ⟨T, h1, h2⟩ := h.h
  obtain ⟨T', h3, h4⟩ := h.r
  exact ⟨⟨T, by omega, h2⟩, ⟨T', by omega, h4⟩, h.apart, h.old, h.below⟩
/-- one call of both -/
theorem TwoH.step {w0 w w1 w2 w3 : World} {hb rb c T T' : Nat} {U R : Nat → Prop} {s s' : HdS} (h : TwoH w0 hb rb c U R s w) (hT : T ≤ 16 * (c + 1)) (hT' : T' ≤ 16 * (c + 1)) (hUl : ∀ k, U k → k < w.heap.size) (hRl : ∀ k, R k → k < w.heap.size ∧ w0.heap.size ≤ k)
    (h1 : HandAt w1 hb (grow U w w1) (T + 16) s') (hM1 : Mod U w w1) (hB : Below w1.heap.size w1 w2) (h2 : RHAt w0 w3 rb (grow R w2 w3) (T' + 16) s') (hM2 : Mod R w2 w3) : TwoH w0 hb rb (c + 1) (grow U w w1) (grow R w2 w3) s' w3 := by
  have z1 := hM1.size
  have z2 := hB.size
  have z3 := hM2.size
  have z0 := h.below.size
  refine ⟨⟨T + 16, by omega, (h1.below hB).mod hM2 (fun k hk hr => ?_)⟩, ⟨T' + 16, by omega, h2⟩, fun k hk hr => ?_, fun k hk => ?_, (((h.below.trans (hM1.below_at z0 (fun k hk hu => ?_))).trans (hB.mono (by omega))).trans (hM2.below_at (by omega) (fun k hk hu => ?_)))⟩
  · rcases hk with hk | hk
    · exact h.apart k hk hr
    · have := hRl k hr; omega
  · rcases hk with hk | hk
    · rcases hr with hr | hr
      · exact h.apart k hk hr
      · have := hUl k hk; omega
    · rcases hr with hr | hr
      · have := hRl k hr; omega
      · omega
  · rcases hk with hk | hk
    · exact h.old k hk
    · omega
  · have := h.old k hu; omega
  · have := hRl k hu; omega
theorem RHPostC.up {w0 w w' : World} {rb T : Nat} {R : Nat → Prop} {r : Bool × HdS} {e : Ending} (h : RHPostC w0 w rb R T r e w') : RHPostC w0 w rb R (T + 16) r e w' := ⟨h.1, h.2.1.wide (fun _ h => h) h.2.1.lt (by omega), h.2.2⟩
theorem rHdropUp_any {w0 w : World} {rb T : Nat} {R : Nat → Prop} {s : HdS} (h : RHAt w0 w rb R T s) (k : Int) : Calls Tryz.prog 23 #[.pointer (some ⟨rb, 0, none⟩), .int .i64 k] w (RHPostC w0 w rb R (T + 16) (s.drop k)) := (rHdrop_any h k).mono (fun _ _ h => h.up)
theorem held_get {es : List HeldQ} {l : List QS} (h : es.map (·.q) = l) {j : Nat} (hj : j < l.length) : ∃ x, es[j]? = some x ∧ l[j]? = some x.q := by
  subst h
  have hl : j < es.length := by simpa using hj
  exact ⟨es[j], List.getElem?_eq_getElem _, by rw [List.getElem?_map, List.getElem?_eq_getElem hl]; rfl⟩
/-- a held row's nine cells -/
theorem heldRow {w : World} {S : Nat → Prop} {n cap : Nat} {ao : Option Addr} {es : List HeldQ} (h : GRowAt w S 9 n cap ao (heldCells es)) {j : Nat} {x : HeldQ} (hx : es[j]? = some x) (hj : j < n) : ∃ b off, ao = some ⟨b, off, none⟩ ∧ b < w.heap.size ∧ ∀ i, i < 9 → w.cell? ⟨b, off + (j * 9 + i), none⟩ = x.cells[i]? := by
  obtain ⟨b, off, e, -, hb, hc, -⟩ := h.at' (Nat.lt_of_lt_of_le (show 0 < n by omega) h.le)
  exact ⟨b, off, e, hb, fun i hi => by rw [hc _ (by omega)]; exact heldCells_at hx i hi⟩
def HpRel (w0 : World) (hb rb n g : Nat) (s8 : Value) (wr : World) : Prop := ∃ (k : Nat) (U R : Nat → Prop) (s : HdS), g = n - k ∧ k ≤ n ∧ s8 = .int .i64 k ∧ TwoH w0 hb rb k U R s wr
def HpIn (w6 : World) (m g : Nat) (s14 : Value) (wr : World) : Prop := ∃ j : Nat, g = m - j ∧ j ≤ m ∧ s14 = .int .i64 j ∧ Mod none' w6 wr
theorem box11 (w : World) (x0 x1 x2 x3 x4 x5 x6 x7 x8 x9 x10 : Value) : ∃ W, W = w.alloc (.cells #[x0, x1, x2, x3, x4, x5, x6, x7, x8, x9, x10] 52) ∧ Below w.heap.size w W ∧ W.heap.size = w.heap.size + 1 ∧ (W.cell? ⟨w.heap.size, 0, none⟩ = some x0 ∧ W.cell? ⟨w.heap.size, 1, none⟩ = some x1 ∧ W.cell? ⟨w.heap.size, 2, none⟩ = some x2 ∧ W.cell? ⟨w.heap.size, 3, none⟩ = some x3 ∧ W.cell? ⟨w.heap.size, 4, none⟩ = some x4 ∧ W.cell? ⟨w.heap.size, 5, none⟩ = some x5 ∧ W.cell? ⟨w.heap.size, 6, none⟩ = some x6 ∧ W.cell? ⟨w.heap.size, 7, none⟩ = some x7 ∧ W.cell? ⟨w.heap.size, 8, none⟩ = some x8 ∧ W.cell? ⟨w.heap.size, 9, none⟩ = some x9 ∧ W.cell? ⟨w.heap.size, 10, none⟩ = some x10) :=
  ⟨_, rfl, by (repeat (first | with_reducible exact (Below.refl _ _) | with_reducible refine Below.drew ?_ | with_reducible refine Esch.below_drewN ?_ _ | with_reducible refine Below.setCell ?_ (by first | omega | (simp; done) | (simp; omega)) _ | with_reducible refine Below.alloc ?_ (by first | omega | (simp; done) | (simp; omega)) _)), by simp, by go_simp, by go_simp, by go_simp, by go_simp, by go_simp, by go_simp, by go_simp, by go_simp, by go_simp, by go_simp, by go_simp⟩
theorem ans_box8 (w : World) (x0 x1 x2 x3 x4 x5 x6 x7 : Value) : ∃ W, W = w.alloc (.cells #[x0, x1, x2, x3, x4, x5, x6, x7] 39) ∧ Below w.heap.size w W ∧ W.heap.size = w.heap.size + 1 ∧ (W.cell? ⟨w.heap.size, 0, none⟩ = some x0 ∧ W.cell? ⟨w.heap.size, 1, none⟩ = some x1 ∧ W.cell? ⟨w.heap.size, 2, none⟩ = some x2 ∧ W.cell? ⟨w.heap.size, 3, none⟩ = some x3 ∧ W.cell? ⟨w.heap.size, 4, none⟩ = some x4 ∧ W.cell? ⟨w.heap.size, 5, none⟩ = some x5 ∧ W.cell? ⟨w.heap.size, 6, none⟩ = some x6 ∧ W.cell? ⟨w.heap.size, 7, none⟩ = some x7) :=
  ⟨_, rfl, by (repeat (first | with_reducible exact (Below.refl _ _) | with_reducible refine Below.drew ?_ | with_reducible refine Esch.below_drewN ?_ _ | with_reducible refine Below.setCell ?_ (by first | omega | (simp; done) | (simp; omega)) _ | with_reducible refine Below.alloc ?_ (by first | omega | (simp; done) | (simp; omega)) _)), by simp, by go_simp, by go_simp, by go_simp, by go_simp, by go_simp, by go_simp, by go_simp, by go_simp⟩
theorem hrd_box (w : World) (x0 x1 x2 x3 x4 x5 x6 x7 x8 : Value) : ∃ W, W = w.alloc (.cells #[x0, x1, x2, x3, x4, x5, x6, x7, x8] 56) ∧ Below w.heap.size w W ∧ W.heap.size = w.heap.size + 1 := ⟨_, rfl, by (repeat (first | with_reducible exact (Below.refl _ _) | with_reducible refine Below.drew ?_ | with_reducible refine Esch.below_drewN ?_ _ | with_reducible refine Below.setCell ?_ (by first | omega | (simp; done) | (simp; omega)) _ | with_reducible refine Below.alloc ?_ (by first | omega | (simp; done) | (simp; omega)) _)), by simp⟩
set_option maxRecDepth 100000 in
set_option maxHeartbeats 16000000 in
theorem handPlays_walk (S : Nat → Prop) (pe : Int) (pa : Option Addr) (pc : Nat) (ls : List (List Int)) (oa : Option Addr) (n cap : Nat) (ps : Nat → StepC) (hn : n ≤ 9223372036854775807) (w : World) (h : ListsAt S w pa ls) (hoa : StepsAt w oa n ps) :
    Calls Tryz.prog 4 #[.agg #[.int .i64 pe, .slice pa ls.length pc], .slice oa n cap] w fun r w' => r = .returned (.bool true) ∧ Below w.heap.size w w' := by
  obtain ⟨W0, hW0, hB0, hz0, p0, p1⟩ := oneBox w 24 (.int .i64 pe) (.slice pa ls.length pc)
  have hl0 := h.mod (F := none') (Mod.of_below hB0) (fun _ _ _ => id)
  have HW0 := Lib.hid hW0
  have HL0 := Lib.hid hl0
  have Hoa := Lib.hid hoa
  have hlp := largeProj_any S W0 pe pa pc ls hl0
  have HB0 := Lib.hid hB0
  clear hW0 h hl0 hoa hB0
  go_enter Tryz.func4, Tryz.ntmps4
  go_wp2_with fail
  rw [← HW0.out]
  refine hlp.mono ?_
  clear hlp
  rintro r w1 ⟨rfl, hB1⟩
  have Hsm0 : Hid (largeProj ls = false → Small ls) := Lib.hid small_ofH
  generalize largeProj ls = lg at *
  have HBw1 := Lib.hid (HB0.out.trans (hB1.mono HB0.out.size))
  have p01 := below_at hB1 p0 (cell_lt p0)
  have p11 := below_at hB1 p1 (cell_lt p1)
  have HL1 := Lib.hid (HL0.out.mod (F := none') (Mod.of_below hB1) (fun _ _ _ => id))
  clear hB1 p0 p1
  cases lg
  · have Hs : Hid (Small ls) := Lib.hid (Hsm0.out rfl)
    clear Hsm0
    have hfr := fair14_any w oa n cap ps hn Hoa.out w1 HBw1.out
    go_wp2_with fail
    refine hfr.mono ?_
    clear hfr
    rintro e w2 ⟨f, rfl, hf, hB2⟩
    have HBw2 := Lib.hid (HBw1.out.trans (hB2.mono HBw1.out.size))
    have p02 := below_at hB2 p01 (cell_lt p01)
    have p12 := below_at hB2 p11 (cell_lt p11)
    have HL2 := Lib.hid (HL1.out.mod (F := none') (Mod.of_below hB2) (fun _ _ _ => id))
    have Hf := Lib.hid hf
    clear hB2 hf p01 p11
    cases f
    · skip
      go_wp2_with fail
      refine (wakes14_any _).mono ?_
      rintro e wz ⟨rfl, hBz⟩
      go_wp2_with fail
      go_ret
      exact ⟨rfl, HBw2.out.trans (hBz.mono HBw2.out.size)⟩
    · have Hfa := Lib.hid (Hf.out rfl)
      clear Hf
      by_cases hg : (⟨pe, ls⟩ : Proj).good
      · have hmd := made2_any S w w2 ⟨pe, ls⟩ pa pc 40 hg HL2.out (by omega) (by omega) HBw2.out
        clear hg
        go_wp2_with fail
        refine hmd.mono ?_
        clear hmd
        rintro e w3 ⟨hb, rb, U0, R0, rfl, hH3, hR3, hap, hold, hB3⟩
        have HT := Lib.hid (show TwoH w hb rb 0 U0 R0 ⟨nd0 ⟨pe, ls⟩ 40, []⟩ w3 from ⟨⟨16, by omega, hH3⟩, ⟨16, by omega, hR3⟩, hap, fun j hj => by have := hold j (Or.inl hj); have := HBw2.out.size; omega, HBw2.out.trans (hB3.mono HBw2.out.size)⟩)
        clear hH3 hR3 hap hold hB3 p02 p12
        go_wp2_with fail
        go_loopg [8] n (fun g s8 wr => HpRel w hb rb n g s8 wr)
        case atStart => exact ⟨0, _, _, _, rfl, Nat.zero_le _, rfl, HT.out⟩
        case round =>
          clear HT
          obtain ⟨k, U, R, s, rfl, hk, rfl, hT⟩ := hrel
          by_cases hkn : k < n
          · obtain ⟨b, off, rfl, hbb, hd, hol, c0, c1, c2, c3, c4, c5, c6, c7, c8, c9, c10⟩ := Hoa.out.get hkn
            have hlg := Hfa.out.2 k hkn
            have hk150 : k < 150 := by have := Hfa.out.1; omega
            obtain ⟨x, hx⟩ : ∃ x, x = ps k := ⟨_, rfl⟩
            rw [← hx] at hd hol c0 c1 c2 c3 c4 c5 c6 c7 c8 c9 c10 hlg
            clear hx
            obtain ⟨what, num, ⟨qk, qu, qe, qp, qz, qn, qd, qpe, qca, qls, qcc⟩⟩ := x
            simp only at hd hol c0 c1 c2 c3 c4 c5 c6 c7 c8 c9 c10
            have Hsm := Lib.hid (show Small qls from small_ofH (by
              unfold askLarge at hlg
              exact (Bool.or_eq_false_iff.1 hlg).2))
            have HOL := Lib.hid hol
            replace c0 := below_at hT.below c0 hbb
            replace c1 := below_at hT.below c1 hbb
            replace c2 := below_at hT.below c2 hbb
            replace c3 := below_at hT.below c3 hbb
            replace c4 := below_at hT.below c4 hbb
            replace c5 := below_at hT.below c5 hbb
            replace c6 := below_at hT.below c6 hbb
            replace c7 := below_at hT.below c7 hbb
            replace c8 := below_at hT.below c8 hbb
            replace c9 := below_at hT.below c9 hbb
            replace c10 := below_at hT.below c10 hbb
            obtain ⟨W1, hW1, hB1, hz1, s0, s1, s2, s3, s4, s5, s6, s7, s8, s9, s10⟩ := box11 wr (.int .i64 what) (.int .i64 num) (.int .i64 qk) (.int .i64 qu) (.int .i64 qe) (.int .i64 qp) (.int .i64 qz) (.int .i64 qn) (.string qd) (.int .i64 qpe) (.slice qca qls.length qcc)
            obtain ⟨sb, hsb⟩ : ∃ sb, sb = wr.heap.size := ⟨_, rfl⟩
            rw [← hsb] at s0 s1 s2 s3 s4 s5 s6 s7 s8 s9 s10
            have HT1 := Lib.hid (hT.below' hB1)
            have HTr := Lib.hid hT
            have HW1 := Lib.hid hW1
            have HSB := Lib.hid hsb
            have HB1 := Lib.hid hB1
            have i0 : (0 : Int) ≤ k := by omega
            have i1 : (k : Int) < n := by omega
            clear hT hW1 hsb hB1 hz1 hlg hol
            by_cases h0 : what = 0
            · subst h0
              obtain ⟨T, hTT, hH⟩ := HT1.out.h
              obtain ⟨T', hTT', hR⟩ := HT1.out.r
              have HUl := Lib.hid hH.lt
              have HRl := Lib.hid hR.lt
              obtain ⟨r, hr⟩ : ∃ r, r = s.ask ⟨qk, qu, qe, qp, qz, qn, qd, ⟨qpe, qls⟩⟩ num := ⟨_, rfl⟩
              have hak : Calls Tryz.prog 18 #[.pointer (some ⟨hb, 0, none⟩), .agg #[.int .i64 qk, .int .i64 qu, .int .i64 qe, .int .i64 qp, .int .i64 qz, .int .i64 qn, .string qd, .int .i64 qpe, .slice qca qls.length qcc], .int .i64 num] W1 (HandPost W1 hb U T r) := by
                rw [hr]
                exact handAsk_any ⟨qk, qu, qe, qp, qz, qn, qd, ⟨qpe, qls⟩⟩ qca qcc num hH (by omega) hd Hsm.out _ (old_below HOL.out HT1.out.below) (fun j hj _ hu => by have := HT1.out.old j hu; have hj : j < w.heap.size := hj; omega)
              have HRA := Lib.hid (show ∀ W, Mod U W1 W → Calls Tryz.prog 19 #[.pointer (some ⟨rb, 0, none⟩), .agg #[.int .i64 qk, .int .i64 qu, .int .i64 qe, .int .i64 qp, .int .i64 qz, .int .i64 qn, .string qd, .int .i64 qpe, .slice qca qls.length qcc], .int .i64 num] W (RHPost w W rb R T' r) from fun W hM => by
                rw [hr]
                exact rHask_any (hR.mod hM (fun j hj hu => HT1.out.apart j hu hj) (fun j hj hu => by have := HT1.out.old j hu; omega)) (by omega) ⟨qk, qu, qe, qp, qz, qn, qd, ⟨qpe, qls⟩⟩ qca qcc num hd HOL.out)
              obtain ⟨⟨⟨xc, xn, xd, ⟨xpe, xls⟩, xm, xs, xe⟩, xok⟩, s'⟩ := r
              have hub : ∀ b, wr.heap.size ≤ b → ¬ U b := fun b hb h => by
                obtain ⟨T2, -, h2⟩ := HTr.out.h
                have := h2.lt b h; omega
              have hrb' : ∀ b, wr.heap.size ≤ b → ¬ R b := fun b hb h => by
                obtain ⟨T2, -, h2⟩ := HTr.out.r
                have := (h2.lt b h).1; omega
              have HUB := Lib.hid hub
              have HRB := Lib.hid hrb'
              clear hH hR hr hub hrb'
              go_wp2_with fail
              rw [← HW1.out, ← HSB.out]
              refine hak.mono ?_
              clear hak
              rintro e w2 ⟨a2, c2, rfl, hl2, hH2, hM2⟩
              simp only at hl2
              have hnU := HUB.out sb (by have := HSB.out; omega)
              have t0 := hM2.at s0 hnU
              have t1 := hM2.at s1 hnU
              have t2 := hM2.at s2 hnU
              have t3 := hM2.at s3 hnU
              have t4 := hM2.at s4 hnU
              have t5 := hM2.at s5 hnU
              have t6 := hM2.at s6 hnU
              have t7 := hM2.at s7 hnU
              have t8 := hM2.at s8 hnU
              have t9 := hM2.at s9 hnU
              have t10 := hM2.at s10 hnU
              have hsl := cell_lt t0
              have HM2 := Lib.hid hM2
              have HL2 := Lib.hid hl2
              have HH2 := Lib.hid hH2
              clear hM2 hl2 hH2 hnU
              simp only [aV]
              obtain ⟨W3, hW3, hB3, hz3, y0, y1, y2, y3, y4, y5, y6, y7⟩ := ans_box8 w2 (.int .i64 xc) (.int .i64 xn) (.string xd) (.int .i64 xpe) (.slice a2 xls.length c2) (.int .i64 xm) (.int .i64 xs) (.int .i64 xe)
              obtain ⟨yb, hyb⟩ : ∃ yb, yb = w2.heap.size := ⟨_, rfl⟩
              rw [← hyb] at y0 y1 y2 y3 y4 y5 y6 y7
              have HW3 := Lib.hid hW3
              have HYB := Lib.hid hyb
              have hra := HRA.out W3 (HM2.out.trans (Mod.of_below hB3))
              have HB3 := Lib.hid hB3
              clear hW3 hyb hB3 hz3
              go_wp2_with fail
              rw [← HW3.out, ← HYB.out]
              refine hra.mono ?_
              clear hra t0 t1 t2 t3 t4 t5 t6 t7 t8 t9 t10
              rintro e w4 ⟨a4, c4, rfl, hl4, hR4, hM4⟩
              simp only at hl4
              have hyR : ¬ R yb := HRB.out yb (by have := HYB.out; have := HM2.out.size; have := HB1.out.size; omega)
              have g0 := hM4.at y0 hyR
              have g1 := hM4.at y1 hyR
              have g2 := hM4.at y2 hyR
              have g3 := hM4.at y3 hyR
              have g4 := hM4.at y4 hyR
              have g5 := hM4.at y5 hyR
              have g6 := hM4.at y6 hyR
              have g7 := hM4.at y7 hyR
              have hgl := cell_lt g0
              have HT4 := Lib.hid (HT1.out.step hTT hTT' HUl.out HRl.out HH2.out HM2.out HB3.out hR4 hM4)
              obtain ⟨W5, hW5, hB5, hz5⟩ := hrd_box w4 (.int .i64 xc) (.int .i64 xn) (.string xd) (.int .i64 xpe) (.slice a4 xls.length c4) (.int .i64 xm) (.int .i64 xs) (.int .i64 xe) (.bool xok)
              have hM25 : Mod R w2 W5 := ((Mod.of_below (F := R) HB3.out).trans hM4).trans (Mod.of_below hB5)
              have hae := answer_eq (fun _ => True) xc xn xd xpe a2 a4 c2 c4 xls xm xs xe W5 ((HL2.out.mod hM25 (fun j hj _ hu => by have hj : W1.heap.size ≤ j := hj; exact HRB.out j (by have := HB1.out.size; omega) hu)).sub (fun _ _ _ => trivial)) ((lists_belowH hl4 hB5).sub (fun _ _ _ => trivial))
              have HW5 := Lib.hid hW5
              have HB5 := Lib.hid hB5
              clear hM4 hl4 hR4 hM25 hW5 hB5 hz5 hyR y0 y1 y2 y3 y4 y5 y6 y7 s0 s1 s2 s3 s4 s5 s6 s7 s8 s9 s10
              simp only [hV]
              go_wp2_with fail
              rw [← HW5.out]
              refine hae.mono ?_
              clear hae g0 g1 g2 g3 g4 g5 g6 g7
              rintro e w9 ⟨rfl, hB9⟩
              have HT := Lib.hid ((HT4.out.below' HB5.out).below' hB9)
              clear hB9
              obtain ⟨TA, -, hHA⟩ := HT.out.h
              have hhd := handHeld_any hHA
              clear hHA
              go_wp2_with fail
              refine hhd.mono ?_
              clear hhd
              rintro e w6 ⟨ka, kc, es, rfl, hkg, hkq, hkl, hB6⟩
              have HT6 := Lib.hid (HT.out.below' hB6)
              obtain ⟨TR, -, ⟨⟨qb, Rn, V, ao, cap, fs, hI, hRR⟩, hRl⟩⟩ := HT6.out.r
              have c0 := hI.c0
              have c1 := hI.c1
              have hfl : fs.length = s'.held.length := by rw [← hI.held, List.length_map]
              have hrow := hI.row
              rw [hfl] at c1 hrow
              obtain ⟨m, hm⟩ : ∃ m, m = s'.held.length := ⟨_, rfl⟩
              rw [← hm] at c1 hrow hkg ⊢
              have Hm := Lib.hid hm
              have HKG := Lib.hid hkg
              have HKQ := Lib.hid hkq
              have HKL := Lib.hid hkl
              have HROW := Lib.hid hrow
              have HHELD := Lib.hid hI.held
              have HEACH := Lib.hid hI.each
              have HIB := Lib.hid hI.below
              have hm64 : (m : Int) ≤ 64 := by have := hI.most; omega
              have HRN := Lib.hid hI.nd
              clear hfl hrow hkg hkq hkl hB6 hI hRR hRl hm HT
              go_wp2_with fail
              go_loopg [14] m (fun g s14 wr => HpIn w6 m g s14 wr)
              case atStart => exact ⟨0, rfl, Nat.zero_le _, rfl, Mod.refl _ _⟩
              case round =>
                obtain ⟨j, rfl, hj, rfl, hMr⟩ := hrel
                by_cases hjm : j < m
                · obtain ⟨x, hx, hxq⟩ := held_get HKQ.out (show j < s'.held.length by have := Hm.out; omega)
                  obtain ⟨y, hy, hyq⟩ := held_get HHELD.out (show j < s'.held.length by have := Hm.out; omega)
                  obtain ⟨kb, ko, rfl, hkb, hkc⟩ := heldRow HKG.out hx hjm
                  obtain ⟨fb, fo, rfl, hfb, hfc⟩ := heldRow HROW.out hy hjm
                  have hxl := HKL.out x (List.mem_of_getElem? hx)
                  have hyl := (HEACH.out y (List.mem_of_getElem? hy)).1
                  have hqe : x.q = y.q := by rw [hxq] at hyq; exact Option.some.inj hyq
                  obtain ⟨⟨xk, xu, xe, xp, xz, xn, xd, ⟨xpe, xls⟩⟩, xa, xc⟩ := x
                  obtain ⟨yq, ya, yc⟩ := y
                  simp only at hqe
                  subst hqe
                  have hMd : Mod none' w6 wr.drew := hMr.drew
                  have a0 := hMr.at (show w6.cell? ⟨kb, ko + j * 9, none⟩ = some (.int .i64 xk) from hkc 0 (by omega)) id
                  have a1 := hMr.at (show w6.cell? ⟨kb, ko + j * 9 + 1, none⟩ = some (.int .i64 xu) from hkc 1 (by omega)) id
                  have a2 := hMr.at (show w6.cell? ⟨kb, ko + j * 9 + 2, none⟩ = some (.int .i64 xe) from hkc 2 (by omega)) id
                  have a3 := hMr.at (show w6.cell? ⟨kb, ko + j * 9 + 3, none⟩ = some (.int .i64 xp) from hkc 3 (by omega)) id
                  have a4 := hMr.at (show w6.cell? ⟨kb, ko + j * 9 + 4, none⟩ = some (.int .i64 xz) from hkc 4 (by omega)) id
                  have a5 := hMr.at (show w6.cell? ⟨kb, ko + j * 9 + 5, none⟩ = some (.int .i64 xn) from hkc 5 (by omega)) id
                  have a6 := hMr.at (show w6.cell? ⟨kb, ko + j * 9 + 6, none⟩ = some (.string xd) from hkc 6 (by omega)) id
                  have a7 := hMr.at (show w6.cell? ⟨kb, ko + j * 9 + 7, none⟩ = some (.int .i64 xpe) from hkc 7 (by omega)) id
                  have a8 := hMr.at (show w6.cell? ⟨kb, ko + j * 9 + 8, none⟩ = some (.slice xa xls.length xc) from hkc 8 (by omega)) id
                  have b0 := hMr.at (show w6.cell? ⟨fb, fo + j * 9, none⟩ = some (.int .i64 xk) from hfc 0 (by omega)) id
                  have b1 := hMr.at (show w6.cell? ⟨fb, fo + j * 9 + 1, none⟩ = some (.int .i64 xu) from hfc 1 (by omega)) id
                  have b2 := hMr.at (show w6.cell? ⟨fb, fo + j * 9 + 2, none⟩ = some (.int .i64 xe) from hfc 2 (by omega)) id
                  have b3 := hMr.at (show w6.cell? ⟨fb, fo + j * 9 + 3, none⟩ = some (.int .i64 xp) from hfc 3 (by omega)) id
                  have b4 := hMr.at (show w6.cell? ⟨fb, fo + j * 9 + 4, none⟩ = some (.int .i64 xz) from hfc 4 (by omega)) id
                  have b5 := hMr.at (show w6.cell? ⟨fb, fo + j * 9 + 5, none⟩ = some (.int .i64 xn) from hfc 5 (by omega)) id
                  have b6 := hMr.at (show w6.cell? ⟨fb, fo + j * 9 + 6, none⟩ = some (.string xd) from hfc 6 (by omega)) id
                  have b7 := hMr.at (show w6.cell? ⟨fb, fo + j * 9 + 7, none⟩ = some (.int .i64 xpe) from hfc 7 (by omega)) id
                  have b8 := hMr.at (show w6.cell? ⟨fb, fo + j * 9 + 8, none⟩ = some (.slice ya xls.length yc) from hfc 8 (by omega)) id
                  have d1 := hMr.at c1 id
                  have hae := ask_eq (fun _ => True) xk xu xe xp xz xn xd xpe xa ya xc yc xls wr.drew ((hxl.mod hMd (fun _ _ _ => id)).sub (fun _ _ _ => trivial)) (((old_below hyl HIB.out).mod hMd (fun _ _ _ => id)).sub (fun _ _ _ => trivial))
                  have j0 : (0 : Int) ≤ j := by omega
                  have j1 : (j : Int) < m := by omega
                  have HMr := Lib.hid hMr
                  clear hkc hfc hxl hyl hx hy hxq hyq hMr hMd
                  go_wp2_with fail
                  refine region_tail 11 (by kernel_rfl) (by kernel_rfl) (fun T hT K hK => ?_)
                  simp only [List.take_succ_cons, List.take_zero]
                  repeat still_step
                  refine wpStill_nil (hK _ ?_)
                  clear hK
                  simp only [List.drop_succ_cons, List.drop_zero] at hT
                  subst hT
                  go_wp2_with fail
                  refine hae.mono ?_
                  clear hae a0 a1 a2 a3 a4 a5 a6 a7 a8 b0 b1 b2 b3 b4 b5 b6 b7 b8 d1
                  rintro e w7 ⟨rfl, hB7⟩
                  have HM7 := Lib.hid (show Mod none' w6 w7 from HMr.out.drew.trans (Mod.of_below hB7))
                  clear hB7
                  go_wp2_with fail
                  go_roundg (m - (j + 1))
                  case measure => omega
                  case rel => exact ⟨j + 1, rfl, by omega, by go_num, HM7.out⟩
                · obtain rfl : j = m := by omega
                  have HTr := Lib.hid (HT6.out.below' hMr.below)
                  obtain ⟨TB, -, hHB⟩ := HTr.out.h
                  obtain ⟨nb, Un, hnd, hNd⟩ := hHB.node
                  have hdn := hnd wr.drew ((Mod.refl _ wr).drew)
                  have hsm := same_any (hNd.mod (F := none') ((Mod.refl _ wr).drew) (fun _ _ => id)) (HRN.out.mod (F := none') hMr.drew (fun _ _ => id))
                  have d0 : wr.drew.cell? ⟨rb, 0, none⟩ = some (.pointer (some ⟨qb, 0, none⟩)) := hMr.at c0 id
                  have HMr := Lib.hid hMr
                  clear hHB hnd hNd hMr hjm hj c0 c1
                  go_wp2_with fail
                  go_region_held3 (fun w' => w'.cell? ⟨rb, 0, none⟩ = some (.pointer (some ⟨qb, 0, none⟩)))
                    (first
                      | with_reducible exact d0
                      | with_reducible exact e0)
                    (first
                      | (go_at_call 26; (with_reducible refine hdn.mono ?_); rintro e w7 ⟨rfl, rfl⟩)
                      | (go_at_call 14; (with_reducible refine hsm.mono ?_); rintro e w8 ⟨rfl, hB8⟩
                         have e0 := below_at hB8 d0 (cell_lt d0)
                         have HT8 := Lib.hid (show TwoH w hb rb (k + 1) _ _ s' w8 from HTr.out.below' ((((Mod.refl none' wr).drew).trans (Mod.of_below hB8)).below))
                         clear hB8 hsm))
                  clear d0 e0 hdn
                  go_wp2_with fail
                  go_roundg (n - (k + 1))
                  case measure => omega
                  case rel => exact ⟨k + 1, _, _, _, rfl, by omega, by go_num, HT8.out⟩
            · have h0' : (what == 0) = false := by simpa using h0
              by_cases h1 : what = 1
              · subst h1
                clear h0 h0'
                obtain ⟨T, hTT, hH⟩ := HT1.out.h
                obtain ⟨T', hTT', hR⟩ := HT1.out.r
                have HUl := Lib.hid hH.lt
                have HRl := Lib.hid hR.lt
                obtain ⟨r, hr⟩ : ∃ r, r = HdS.doHeld s num := ⟨_, rfl⟩
                have hak : Calls Tryz.prog 20 #[.pointer (some ⟨hb, 0, none⟩), .int .i64 num] W1.drew (HandPostB W1.drew hb U T r) := by
                  rw [hr]
                  exact handDo_any (hH.below ((Mod.refl none' W1).drew.below)) (by omega) num
                have HRA := Lib.hid (show ∀ W, Mod U W1.drew W → Calls Tryz.prog 21 #[.pointer (some ⟨rb, 0, none⟩), .int .i64 num] W (RHPostC w W rb R (T' + 16) r) from fun W hM => by
                  have hM' : Mod U W1 W := ((Mod.refl U W1).drew).trans hM
                  have hR' := hR.mod hM' (fun j hj hu => HT1.out.apart j hu hj) (fun j hj hu => by have := HT1.out.old j hu; omega)
                  rw [hr]
                  exact rHdo_any hR' (by omega) num)
                obtain ⟨xok, s'⟩ := r
                have hnU : ¬ U sb := fun h => by
                  obtain ⟨T2, -, h2⟩ := HTr.out.h
                  have := h2.lt sb h; have := HSB.out; omega
                have hnR : ¬ R sb := fun h => by
                  obtain ⟨T2, -, h2⟩ := HTr.out.r
                  have := (h2.lt sb h).1; have := HSB.out; omega
                have d1 : W1.drew.cell? ⟨sb, 1, none⟩ = some (.int .i64 num) := s1
                clear hH hR hr s0 s1 s2 s3 s4 s5 s6 s7 s8 s9 s10
                go_wp2_with fail
                rw [← HW1.out, ← HSB.out]
                go_region_held3 (fun w' => w'.cell? ⟨sb, 1, none⟩ = some (.int .i64 num))
                  (first
                    | with_reducible exact d1
                    | with_reducible exact d2
                    | with_reducible exact d3)
                  (first
                    | (go_at_call 20; (with_reducible refine hak.mono ?_); rintro e w2 ⟨rfl, hH2, hM2⟩
                       have d2 := hM2.at d1 hnU
                       have hra := HRA.out w2 hM2
                       have HH2 := Lib.hid (show HandAt w2 hb (grow U W1 w2) (T + 16) s' from hH2)
                       have HM2 := Lib.hid (show Mod U W1 w2 from ((Mod.refl U W1).drew).trans hM2)
                       clear hak hH2 hM2)
                    | (go_at_call 21; (with_reducible refine hra.mono ?_); rintro e w3 ⟨rfl, hR3, hM3⟩
                       have d3 := hM3.at d2 hnR
                       have HT := Lib.hid (HT1.out.step hTT hTT' HUl.out HRl.out HH2.out HM2.out (Below.refl _ _) hR3 hM3)
                       clear hra hR3 hM3))
                clear d1 d2 d3 hnU hnR
                obtain ⟨TA, -, hHA⟩ := HT.out.h
                have hhd := handHeld_any hHA
                clear hHA
                go_wp2_with fail
                refine hhd.mono ?_
                clear hhd
                rintro e w6 ⟨ka, kc, es, rfl, hkg, hkq, hkl, hB6⟩
                have HT6 := Lib.hid (HT.out.below' hB6)
                obtain ⟨TR, -, ⟨⟨qb, Rn, V, ao, cap, fs, hI, hRR⟩, hRl⟩⟩ := HT6.out.r
                have c0 := hI.c0
                have c1 := hI.c1
                have hfl : fs.length = s'.held.length := by rw [← hI.held, List.length_map]
                have hrow := hI.row
                rw [hfl] at c1 hrow
                obtain ⟨m, hm⟩ : ∃ m, m = s'.held.length := ⟨_, rfl⟩
                rw [← hm] at c1 hrow hkg ⊢
                have Hm := Lib.hid hm
                have HKG := Lib.hid hkg
                have HKQ := Lib.hid hkq
                have HKL := Lib.hid hkl
                have HROW := Lib.hid hrow
                have HHELD := Lib.hid hI.held
                have HEACH := Lib.hid hI.each
                have HIB := Lib.hid hI.below
                have hm64 : (m : Int) ≤ 64 := by have := hI.most; omega
                have HRN := Lib.hid hI.nd
                clear hfl hrow hkg hkq hkl hB6 hI hRR hRl hm HT
                go_wp2_with fail
                go_loopg [14] m (fun g s14 wr => HpIn w6 m g s14 wr)
                case atStart => exact ⟨0, rfl, Nat.zero_le _, rfl, Mod.refl _ _⟩
                case round =>
                  obtain ⟨j, rfl, hj, rfl, hMr⟩ := hrel
                  by_cases hjm : j < m
                  · obtain ⟨x, hx, hxq⟩ := held_get HKQ.out (show j < s'.held.length by have := Hm.out; omega)
                    obtain ⟨y, hy, hyq⟩ := held_get HHELD.out (show j < s'.held.length by have := Hm.out; omega)
                    obtain ⟨kb, ko, rfl, hkb, hkc⟩ := heldRow HKG.out hx hjm
                    obtain ⟨fb, fo, rfl, hfb, hfc⟩ := heldRow HROW.out hy hjm
                    have hxl := HKL.out x (List.mem_of_getElem? hx)
                    have hyl := (HEACH.out y (List.mem_of_getElem? hy)).1
                    have hqe : x.q = y.q := by rw [hxq] at hyq; exact Option.some.inj hyq
                    obtain ⟨⟨xk, xu, xe, xp, xz, xn, xd, ⟨xpe, xls⟩⟩, xa, xc⟩ := x
                    obtain ⟨yq, ya, yc⟩ := y
                    simp only at hqe
                    subst hqe
                    have hMd : Mod none' w6 wr.drew := hMr.drew
                    have a0 := hMr.at (show w6.cell? ⟨kb, ko + j * 9, none⟩ = some (.int .i64 xk) from hkc 0 (by omega)) id
                    have a1 := hMr.at (show w6.cell? ⟨kb, ko + j * 9 + 1, none⟩ = some (.int .i64 xu) from hkc 1 (by omega)) id
                    have a2 := hMr.at (show w6.cell? ⟨kb, ko + j * 9 + 2, none⟩ = some (.int .i64 xe) from hkc 2 (by omega)) id
                    have a3 := hMr.at (show w6.cell? ⟨kb, ko + j * 9 + 3, none⟩ = some (.int .i64 xp) from hkc 3 (by omega)) id
                    have a4 := hMr.at (show w6.cell? ⟨kb, ko + j * 9 + 4, none⟩ = some (.int .i64 xz) from hkc 4 (by omega)) id
                    have a5 := hMr.at (show w6.cell? ⟨kb, ko + j * 9 + 5, none⟩ = some (.int .i64 xn) from hkc 5 (by omega)) id
                    have a6 := hMr.at (show w6.cell? ⟨kb, ko + j * 9 + 6, none⟩ = some (.string xd) from hkc 6 (by omega)) id
                    have a7 := hMr.at (show w6.cell? ⟨kb, ko + j * 9 + 7, none⟩ = some (.int .i64 xpe) from hkc 7 (by omega)) id
                    have a8 := hMr.at (show w6.cell? ⟨kb, ko + j * 9 + 8, none⟩ = some (.slice xa xls.length xc) from hkc 8 (by omega)) id
                    have b0 := hMr.at (show w6.cell? ⟨fb, fo + j * 9, none⟩ = some (.int .i64 xk) from hfc 0 (by omega)) id
                    have b1 := hMr.at (show w6.cell? ⟨fb, fo + j * 9 + 1, none⟩ = some (.int .i64 xu) from hfc 1 (by omega)) id
                    have b2 := hMr.at (show w6.cell? ⟨fb, fo + j * 9 + 2, none⟩ = some (.int .i64 xe) from hfc 2 (by omega)) id
                    have b3 := hMr.at (show w6.cell? ⟨fb, fo + j * 9 + 3, none⟩ = some (.int .i64 xp) from hfc 3 (by omega)) id
                    have b4 := hMr.at (show w6.cell? ⟨fb, fo + j * 9 + 4, none⟩ = some (.int .i64 xz) from hfc 4 (by omega)) id
                    have b5 := hMr.at (show w6.cell? ⟨fb, fo + j * 9 + 5, none⟩ = some (.int .i64 xn) from hfc 5 (by omega)) id
                    have b6 := hMr.at (show w6.cell? ⟨fb, fo + j * 9 + 6, none⟩ = some (.string xd) from hfc 6 (by omega)) id
                    have b7 := hMr.at (show w6.cell? ⟨fb, fo + j * 9 + 7, none⟩ = some (.int .i64 xpe) from hfc 7 (by omega)) id
                    have b8 := hMr.at (show w6.cell? ⟨fb, fo + j * 9 + 8, none⟩ = some (.slice ya xls.length yc) from hfc 8 (by omega)) id
                    have d1 := hMr.at c1 id
                    have hae := ask_eq (fun _ => True) xk xu xe xp xz xn xd xpe xa ya xc yc xls wr.drew ((hxl.mod hMd (fun _ _ _ => id)).sub (fun _ _ _ => trivial)) (((old_below hyl HIB.out).mod hMd (fun _ _ _ => id)).sub (fun _ _ _ => trivial))
                    have j0 : (0 : Int) ≤ j := by omega
                    have j1 : (j : Int) < m := by omega
                    have HMr := Lib.hid hMr
                    clear hkc hfc hxl hyl hx hy hxq hyq hMr hMd
                    go_wp2_with fail
                    refine region_tail 11 (by kernel_rfl) (by kernel_rfl) (fun T hT K hK => ?_)
                    simp only [List.take_succ_cons, List.take_zero]
                    repeat still_step
                    refine wpStill_nil (hK _ ?_)
                    clear hK
                    simp only [List.drop_succ_cons, List.drop_zero] at hT
                    subst hT
                    go_wp2_with fail
                    refine hae.mono ?_
                    clear hae a0 a1 a2 a3 a4 a5 a6 a7 a8 b0 b1 b2 b3 b4 b5 b6 b7 b8 d1
                    rintro e w7 ⟨rfl, hB7⟩
                    have HM7 := Lib.hid (show Mod none' w6 w7 from HMr.out.drew.trans (Mod.of_below hB7))
                    clear hB7
                    go_wp2_with fail
                    go_roundg (m - (j + 1))
                    case measure => omega
                    case rel => exact ⟨j + 1, rfl, by omega, by go_num, HM7.out⟩
                  · obtain rfl : j = m := by omega
                    have HTr := Lib.hid (HT6.out.below' hMr.below)
                    obtain ⟨TB, -, hHB⟩ := HTr.out.h
                    obtain ⟨nb, Un, hnd, hNd⟩ := hHB.node
                    have hdn := hnd wr.drew ((Mod.refl _ wr).drew)
                    have hsm := same_any (hNd.mod (F := none') ((Mod.refl _ wr).drew) (fun _ _ => id)) (HRN.out.mod (F := none') hMr.drew (fun _ _ => id))
                    have d0 : wr.drew.cell? ⟨rb, 0, none⟩ = some (.pointer (some ⟨qb, 0, none⟩)) := hMr.at c0 id
                    have HMr := Lib.hid hMr
                    clear hHB hnd hNd hMr hjm hj c0 c1
                    go_wp2_with fail
                    go_region_held3 (fun w' => w'.cell? ⟨rb, 0, none⟩ = some (.pointer (some ⟨qb, 0, none⟩)))
                      (first
                        | with_reducible exact d0
                        | with_reducible exact e0)
                      (first
                        | (go_at_call 26; (with_reducible refine hdn.mono ?_); rintro e w7 ⟨rfl, rfl⟩)
                        | (go_at_call 14; (with_reducible refine hsm.mono ?_); rintro e w8 ⟨rfl, hB8⟩
                           have e0 := below_at hB8 d0 (cell_lt d0)
                           have HT8 := Lib.hid (show TwoH w hb rb (k + 1) _ _ s' w8 from HTr.out.below' ((((Mod.refl none' wr).drew).trans (Mod.of_below hB8)).below))
                           clear hB8 hsm))
                    clear d0 e0 hdn
                    go_wp2_with fail
                    go_roundg (n - (k + 1))
                    case measure => omega
                    case rel => exact ⟨k + 1, _, _, _, rfl, by omega, by go_num, HT8.out⟩
              · have h1' : (what == 1) = false := by simpa using h1
                by_cases h2 : what = 2
                · subst h2
                  clear h0 h0' h1 h1'
                  obtain ⟨T, hTT, hH⟩ := HT1.out.h
                  obtain ⟨T', hTT', hR⟩ := HT1.out.r
                  have HUl := Lib.hid hH.lt
                  have HRl := Lib.hid hR.lt
                  obtain ⟨r, hr⟩ : ∃ r, r = HdS.drop s num := ⟨_, rfl⟩
                  have hak : Calls Tryz.prog 22 #[.pointer (some ⟨hb, 0, none⟩), .int .i64 num] W1.drew (HandPostB W1.drew hb U T r) := by
                    rw [hr]
                    exact handDrop_any (hH.below ((Mod.refl none' W1).drew.below)) num
                  have HRA := Lib.hid (show ∀ W, Mod U W1.drew W → Calls Tryz.prog 23 #[.pointer (some ⟨rb, 0, none⟩), .int .i64 num] W (RHPostC w W rb R (T' + 16) r) from fun W hM => by
                    have hM' : Mod U W1 W := ((Mod.refl U W1).drew).trans hM
                    have hR' := hR.mod hM' (fun j hj hu => HT1.out.apart j hu hj) (fun j hj hu => by have := HT1.out.old j hu; omega)
                    rw [hr]
                    exact rHdropUp_any hR' num)
                  obtain ⟨xok, s'⟩ := r
                  have hnU : ¬ U sb := fun h => by
                    obtain ⟨T2, -, h2⟩ := HTr.out.h
                    have := h2.lt sb h; have := HSB.out; omega
                  have hnR : ¬ R sb := fun h => by
                    obtain ⟨T2, -, h2⟩ := HTr.out.r
                    have := (h2.lt sb h).1; have := HSB.out; omega
                  have d1 : W1.drew.cell? ⟨sb, 1, none⟩ = some (.int .i64 num) := s1
                  clear hH hR hr s0 s1 s2 s3 s4 s5 s6 s7 s8 s9 s10
                  go_wp2_with fail
                  rw [← HW1.out, ← HSB.out]
                  go_region_held3 (fun w' => w'.cell? ⟨sb, 1, none⟩ = some (.int .i64 num))
                    (first
                      | with_reducible exact d1
                      | with_reducible exact d2
                      | with_reducible exact d3)
                    (first
                      | (go_at_call 22; (with_reducible refine hak.mono ?_); rintro e w2 ⟨rfl, hH2, hM2⟩
                         have d2 := hM2.at d1 hnU
                         have hra := HRA.out w2 hM2
                         have HH2 := Lib.hid (show HandAt w2 hb (grow U W1 w2) (T + 16) s' from hH2)
                         have HM2 := Lib.hid (show Mod U W1 w2 from ((Mod.refl U W1).drew).trans hM2)
                         clear hak hH2 hM2)
                      | (go_at_call 23; (with_reducible refine hra.mono ?_); rintro e w3 ⟨rfl, hR3, hM3⟩
                         have d3 := hM3.at d2 hnR
                         have HT := Lib.hid (HT1.out.step hTT hTT' HUl.out HRl.out HH2.out HM2.out (Below.refl _ _) hR3 hM3)
                         clear hra hR3 hM3))
                  clear d1 d2 d3 hnU hnR
                  obtain ⟨TA, -, hHA⟩ := HT.out.h
                  have hhd := handHeld_any hHA
                  clear hHA
                  go_wp2_with fail
                  refine hhd.mono ?_
                  clear hhd
                  rintro e w6 ⟨ka, kc, es, rfl, hkg, hkq, hkl, hB6⟩
                  have HT6 := Lib.hid (HT.out.below' hB6)
                  obtain ⟨TR, -, ⟨⟨qb, Rn, V, ao, cap, fs, hI, hRR⟩, hRl⟩⟩ := HT6.out.r
                  have c0 := hI.c0
                  have c1 := hI.c1
                  have hfl : fs.length = s'.held.length := by rw [← hI.held, List.length_map]
                  have hrow := hI.row
                  rw [hfl] at c1 hrow
                  obtain ⟨m, hm⟩ : ∃ m, m = s'.held.length := ⟨_, rfl⟩
                  rw [← hm] at c1 hrow hkg ⊢
                  have Hm := Lib.hid hm
                  have HKG := Lib.hid hkg
                  have HKQ := Lib.hid hkq
                  have HKL := Lib.hid hkl
                  have HROW := Lib.hid hrow
                  have HHELD := Lib.hid hI.held
                  have HEACH := Lib.hid hI.each
                  have HIB := Lib.hid hI.below
                  have hm64 : (m : Int) ≤ 64 := by have := hI.most; omega
                  have HRN := Lib.hid hI.nd
                  clear hfl hrow hkg hkq hkl hB6 hI hRR hRl hm HT
                  go_wp2_with fail
                  go_loopg [14] m (fun g s14 wr => HpIn w6 m g s14 wr)
                  case atStart => exact ⟨0, rfl, Nat.zero_le _, rfl, Mod.refl _ _⟩
                  case round =>
                    obtain ⟨j, rfl, hj, rfl, hMr⟩ := hrel
                    by_cases hjm : j < m
                    · obtain ⟨x, hx, hxq⟩ := held_get HKQ.out (show j < s'.held.length by have := Hm.out; omega)
                      obtain ⟨y, hy, hyq⟩ := held_get HHELD.out (show j < s'.held.length by have := Hm.out; omega)
                      obtain ⟨kb, ko, rfl, hkb, hkc⟩ := heldRow HKG.out hx hjm
                      obtain ⟨fb, fo, rfl, hfb, hfc⟩ := heldRow HROW.out hy hjm
                      have hxl := HKL.out x (List.mem_of_getElem? hx)
                      have hyl := (HEACH.out y (List.mem_of_getElem? hy)).1
                      have hqe : x.q = y.q := by rw [hxq] at hyq; exact Option.some.inj hyq
                      obtain ⟨⟨xk, xu, xe, xp, xz, xn, xd, ⟨xpe, xls⟩⟩, xa, xc⟩ := x
                      obtain ⟨yq, ya, yc⟩ := y
                      simp only at hqe
                      subst hqe
                      have hMd : Mod none' w6 wr.drew := hMr.drew
                      have a0 := hMr.at (show w6.cell? ⟨kb, ko + j * 9, none⟩ = some (.int .i64 xk) from hkc 0 (by omega)) id
                      have a1 := hMr.at (show w6.cell? ⟨kb, ko + j * 9 + 1, none⟩ = some (.int .i64 xu) from hkc 1 (by omega)) id
                      have a2 := hMr.at (show w6.cell? ⟨kb, ko + j * 9 + 2, none⟩ = some (.int .i64 xe) from hkc 2 (by omega)) id
                      have a3 := hMr.at (show w6.cell? ⟨kb, ko + j * 9 + 3, none⟩ = some (.int .i64 xp) from hkc 3 (by omega)) id
                      have a4 := hMr.at (show w6.cell? ⟨kb, ko + j * 9 + 4, none⟩ = some (.int .i64 xz) from hkc 4 (by omega)) id
                      have a5 := hMr.at (show w6.cell? ⟨kb, ko + j * 9 + 5, none⟩ = some (.int .i64 xn) from hkc 5 (by omega)) id
                      have a6 := hMr.at (show w6.cell? ⟨kb, ko + j * 9 + 6, none⟩ = some (.string xd) from hkc 6 (by omega)) id
                      have a7 := hMr.at (show w6.cell? ⟨kb, ko + j * 9 + 7, none⟩ = some (.int .i64 xpe) from hkc 7 (by omega)) id
                      have a8 := hMr.at (show w6.cell? ⟨kb, ko + j * 9 + 8, none⟩ = some (.slice xa xls.length xc) from hkc 8 (by omega)) id
                      have b0 := hMr.at (show w6.cell? ⟨fb, fo + j * 9, none⟩ = some (.int .i64 xk) from hfc 0 (by omega)) id
                      have b1 := hMr.at (show w6.cell? ⟨fb, fo + j * 9 + 1, none⟩ = some (.int .i64 xu) from hfc 1 (by omega)) id
                      have b2 := hMr.at (show w6.cell? ⟨fb, fo + j * 9 + 2, none⟩ = some (.int .i64 xe) from hfc 2 (by omega)) id
                      have b3 := hMr.at (show w6.cell? ⟨fb, fo + j * 9 + 3, none⟩ = some (.int .i64 xp) from hfc 3 (by omega)) id
                      have b4 := hMr.at (show w6.cell? ⟨fb, fo + j * 9 + 4, none⟩ = some (.int .i64 xz) from hfc 4 (by omega)) id
                      have b5 := hMr.at (show w6.cell? ⟨fb, fo + j * 9 + 5, none⟩ = some (.int .i64 xn) from hfc 5 (by omega)) id
                      have b6 := hMr.at (show w6.cell? ⟨fb, fo + j * 9 + 6, none⟩ = some (.string xd) from hfc 6 (by omega)) id
                      have b7 := hMr.at (show w6.cell? ⟨fb, fo + j * 9 + 7, none⟩ = some (.int .i64 xpe) from hfc 7 (by omega)) id
                      have b8 := hMr.at (show w6.cell? ⟨fb, fo + j * 9 + 8, none⟩ = some (.slice ya xls.length yc) from hfc 8 (by omega)) id
                      have d1 := hMr.at c1 id
                      have hae := ask_eq (fun _ => True) xk xu xe xp xz xn xd xpe xa ya xc yc xls wr.drew ((hxl.mod hMd (fun _ _ _ => id)).sub (fun _ _ _ => trivial)) (((old_below hyl HIB.out).mod hMd (fun _ _ _ => id)).sub (fun _ _ _ => trivial))
                      have j0 : (0 : Int) ≤ j := by omega
                      have j1 : (j : Int) < m := by omega
                      have HMr := Lib.hid hMr
                      clear hkc hfc hxl hyl hx hy hxq hyq hMr hMd
                      go_wp2_with fail
                      refine region_tail 11 (by kernel_rfl) (by kernel_rfl) (fun T hT K hK => ?_)
                      simp only [List.take_succ_cons, List.take_zero]
                      repeat still_step
                      refine wpStill_nil (hK _ ?_)
                      clear hK
                      simp only [List.drop_succ_cons, List.drop_zero] at hT
                      subst hT
                      go_wp2_with fail
                      refine hae.mono ?_
                      clear hae a0 a1 a2 a3 a4 a5 a6 a7 a8 b0 b1 b2 b3 b4 b5 b6 b7 b8 d1
                      rintro e w7 ⟨rfl, hB7⟩
                      have HM7 := Lib.hid (show Mod none' w6 w7 from HMr.out.drew.trans (Mod.of_below hB7))
                      clear hB7
                      go_wp2_with fail
                      go_roundg (m - (j + 1))
                      case measure => omega
                      case rel => exact ⟨j + 1, rfl, by omega, by go_num, HM7.out⟩
                    · obtain rfl : j = m := by omega
                      have HTr := Lib.hid (HT6.out.below' hMr.below)
                      obtain ⟨TB, -, hHB⟩ := HTr.out.h
                      obtain ⟨nb, Un, hnd, hNd⟩ := hHB.node
                      have hdn := hnd wr.drew ((Mod.refl _ wr).drew)
                      have hsm := same_any (hNd.mod (F := none') ((Mod.refl _ wr).drew) (fun _ _ => id)) (HRN.out.mod (F := none') hMr.drew (fun _ _ => id))
                      have d0 : wr.drew.cell? ⟨rb, 0, none⟩ = some (.pointer (some ⟨qb, 0, none⟩)) := hMr.at c0 id
                      have HMr := Lib.hid hMr
                      clear hHB hnd hNd hMr hjm hj c0 c1
                      go_wp2_with fail
                      go_region_held3 (fun w' => w'.cell? ⟨rb, 0, none⟩ = some (.pointer (some ⟨qb, 0, none⟩)))
                        (first
                          | with_reducible exact d0
                          | with_reducible exact e0)
                        (first
                          | (go_at_call 26; (with_reducible refine hdn.mono ?_); rintro e w7 ⟨rfl, rfl⟩)
                          | (go_at_call 14; (with_reducible refine hsm.mono ?_); rintro e w8 ⟨rfl, hB8⟩
                             have e0 := below_at hB8 d0 (cell_lt d0)
                             have HT8 := Lib.hid (show TwoH w hb rb (k + 1) _ _ s' w8 from HTr.out.below' ((((Mod.refl none' wr).drew).trans (Mod.of_below hB8)).below))
                             clear hB8 hsm))
                      clear d0 e0 hdn
                      go_wp2_with fail
                      go_roundg (n - (k + 1))
                      case measure => omega
                      case rel => exact ⟨k + 1, _, _, _, rfl, by omega, by go_num, HT8.out⟩
                · have h2' : (what == 2) = false := by simpa using h2
                  clear h0 h1 h2
                  have HT := Lib.hid (HT1.out.more (show k ≤ k + 1 by omega))
                  go_wp2_with fail
                  rw [← HW1.out]
                  clear s0 s1 s2 s3 s4 s5 s6 s7 s8 s9 s10
                  obtain ⟨TA, -, hHA⟩ := HT.out.h
                  have hhd := handHeld_any hHA
                  clear hHA
                  go_wp2_with fail
                  refine hhd.mono ?_
                  clear hhd
                  rintro e w6 ⟨ka, kc, es, rfl, hkg, hkq, hkl, hB6⟩
                  have HT6 := Lib.hid (HT.out.below' hB6)
                  obtain ⟨TR, -, ⟨⟨qb, Rn, V, ao, cap, fs, hI, hRR⟩, hRl⟩⟩ := HT6.out.r
                  have c0 := hI.c0
                  have c1 := hI.c1
                  have hfl : fs.length = s.held.length := by rw [← hI.held, List.length_map]
                  have hrow := hI.row
                  rw [hfl] at c1 hrow
                  obtain ⟨m, hm⟩ : ∃ m, m = s.held.length := ⟨_, rfl⟩
                  rw [← hm] at c1 hrow hkg ⊢
                  have Hm := Lib.hid hm
                  have HKG := Lib.hid hkg
                  have HKQ := Lib.hid hkq
                  have HKL := Lib.hid hkl
                  have HROW := Lib.hid hrow
                  have HHELD := Lib.hid hI.held
                  have HEACH := Lib.hid hI.each
                  have HIB := Lib.hid hI.below
                  have hm64 : (m : Int) ≤ 64 := by have := hI.most; omega
                  have HRN := Lib.hid hI.nd
                  clear hfl hrow hkg hkq hkl hB6 hI hRR hRl hm HT
                  go_wp2_with fail
                  go_loopg [14] m (fun g s14 wr => HpIn w6 m g s14 wr)
                  case atStart => exact ⟨0, rfl, Nat.zero_le _, rfl, Mod.refl _ _⟩
                  case round =>
                    obtain ⟨j, rfl, hj, rfl, hMr⟩ := hrel
                    by_cases hjm : j < m
                    · obtain ⟨x, hx, hxq⟩ := held_get HKQ.out (show j < s.held.length by have := Hm.out; omega)
                      obtain ⟨y, hy, hyq⟩ := held_get HHELD.out (show j < s.held.length by have := Hm.out; omega)
                      obtain ⟨kb, ko, rfl, hkb, hkc⟩ := heldRow HKG.out hx hjm
                      obtain ⟨fb, fo, rfl, hfb, hfc⟩ := heldRow HROW.out hy hjm
                      have hxl := HKL.out x (List.mem_of_getElem? hx)
                      have hyl := (HEACH.out y (List.mem_of_getElem? hy)).1
                      have hqe : x.q = y.q := by rw [hxq] at hyq; exact Option.some.inj hyq
                      obtain ⟨⟨xk, xu, xe, xp, xz, xn, xd, ⟨xpe, xls⟩⟩, xa, xc⟩ := x
                      obtain ⟨yq, ya, yc⟩ := y
                      simp only at hqe
                      subst hqe
                      have hMd : Mod none' w6 wr.drew := hMr.drew
                      have a0 := hMr.at (show w6.cell? ⟨kb, ko + j * 9, none⟩ = some (.int .i64 xk) from hkc 0 (by omega)) id
                      have a1 := hMr.at (show w6.cell? ⟨kb, ko + j * 9 + 1, none⟩ = some (.int .i64 xu) from hkc 1 (by omega)) id
                      have a2 := hMr.at (show w6.cell? ⟨kb, ko + j * 9 + 2, none⟩ = some (.int .i64 xe) from hkc 2 (by omega)) id
                      have a3 := hMr.at (show w6.cell? ⟨kb, ko + j * 9 + 3, none⟩ = some (.int .i64 xp) from hkc 3 (by omega)) id
                      have a4 := hMr.at (show w6.cell? ⟨kb, ko + j * 9 + 4, none⟩ = some (.int .i64 xz) from hkc 4 (by omega)) id
                      have a5 := hMr.at (show w6.cell? ⟨kb, ko + j * 9 + 5, none⟩ = some (.int .i64 xn) from hkc 5 (by omega)) id
                      have a6 := hMr.at (show w6.cell? ⟨kb, ko + j * 9 + 6, none⟩ = some (.string xd) from hkc 6 (by omega)) id
                      have a7 := hMr.at (show w6.cell? ⟨kb, ko + j * 9 + 7, none⟩ = some (.int .i64 xpe) from hkc 7 (by omega)) id
                      have a8 := hMr.at (show w6.cell? ⟨kb, ko + j * 9 + 8, none⟩ = some (.slice xa xls.length xc) from hkc 8 (by omega)) id
                      have b0 := hMr.at (show w6.cell? ⟨fb, fo + j * 9, none⟩ = some (.int .i64 xk) from hfc 0 (by omega)) id
                      have b1 := hMr.at (show w6.cell? ⟨fb, fo + j * 9 + 1, none⟩ = some (.int .i64 xu) from hfc 1 (by omega)) id
                      have b2 := hMr.at (show w6.cell? ⟨fb, fo + j * 9 + 2, none⟩ = some (.int .i64 xe) from hfc 2 (by omega)) id
                      have b3 := hMr.at (show w6.cell? ⟨fb, fo + j * 9 + 3, none⟩ = some (.int .i64 xp) from hfc 3 (by omega)) id
                      have b4 := hMr.at (show w6.cell? ⟨fb, fo + j * 9 + 4, none⟩ = some (.int .i64 xz) from hfc 4 (by omega)) id
                      have b5 := hMr.at (show w6.cell? ⟨fb, fo + j * 9 + 5, none⟩ = some (.int .i64 xn) from hfc 5 (by omega)) id
                      have b6 := hMr.at (show w6.cell? ⟨fb, fo + j * 9 + 6, none⟩ = some (.string xd) from hfc 6 (by omega)) id
                      have b7 := hMr.at (show w6.cell? ⟨fb, fo + j * 9 + 7, none⟩ = some (.int .i64 xpe) from hfc 7 (by omega)) id
                      have b8 := hMr.at (show w6.cell? ⟨fb, fo + j * 9 + 8, none⟩ = some (.slice ya xls.length yc) from hfc 8 (by omega)) id
                      have d1 := hMr.at c1 id
                      have hae := ask_eq (fun _ => True) xk xu xe xp xz xn xd xpe xa ya xc yc xls wr.drew ((hxl.mod hMd (fun _ _ _ => id)).sub (fun _ _ _ => trivial)) (((old_below hyl HIB.out).mod hMd (fun _ _ _ => id)).sub (fun _ _ _ => trivial))
                      have j0 : (0 : Int) ≤ j := by omega
                      have j1 : (j : Int) < m := by omega
                      have HMr := Lib.hid hMr
                      clear hkc hfc hxl hyl hx hy hxq hyq hMr hMd
                      go_wp2_with fail
                      refine region_tail 11 (by kernel_rfl) (by kernel_rfl) (fun T hT K hK => ?_)
                      simp only [List.take_succ_cons, List.take_zero]
                      repeat still_step
                      refine wpStill_nil (hK _ ?_)
                      clear hK
                      simp only [List.drop_succ_cons, List.drop_zero] at hT
                      subst hT
                      go_wp2_with fail
                      refine hae.mono ?_
                      clear hae a0 a1 a2 a3 a4 a5 a6 a7 a8 b0 b1 b2 b3 b4 b5 b6 b7 b8 d1
                      rintro e w7 ⟨rfl, hB7⟩
                      have HM7 := Lib.hid (show Mod none' w6 w7 from HMr.out.drew.trans (Mod.of_below hB7))
                      clear hB7
                      go_wp2_with fail
                      go_roundg (m - (j + 1))
                      case measure => omega
                      case rel => exact ⟨j + 1, rfl, by omega, by go_num, HM7.out⟩
                    · obtain rfl : j = m := by omega
                      have HTr := Lib.hid (HT6.out.below' hMr.below)
                      obtain ⟨TB, -, hHB⟩ := HTr.out.h
                      obtain ⟨nb, Un, hnd, hNd⟩ := hHB.node
                      have hdn := hnd wr.drew ((Mod.refl _ wr).drew)
                      have hsm := same_any (hNd.mod (F := none') ((Mod.refl _ wr).drew) (fun _ _ => id)) (HRN.out.mod (F := none') hMr.drew (fun _ _ => id))
                      have d0 : wr.drew.cell? ⟨rb, 0, none⟩ = some (.pointer (some ⟨qb, 0, none⟩)) := hMr.at c0 id
                      have HMr := Lib.hid hMr
                      clear hHB hnd hNd hMr hjm hj c0 c1
                      go_wp2_with fail
                      go_region_held3 (fun w' => w'.cell? ⟨rb, 0, none⟩ = some (.pointer (some ⟨qb, 0, none⟩)))
                        (first
                          | with_reducible exact d0
                          | with_reducible exact e0)
                        (first
                          | (go_at_call 26; (with_reducible refine hdn.mono ?_); rintro e w7 ⟨rfl, rfl⟩)
                          | (go_at_call 14; (with_reducible refine hsm.mono ?_); rintro e w8 ⟨rfl, hB8⟩
                             have e0 := below_at hB8 d0 (cell_lt d0)
                             have HT8 := Lib.hid (show TwoH w hb rb (k + 1) _ _ s w8 from HTr.out.below' ((((Mod.refl none' wr).drew).trans (Mod.of_below hB8)).below))
                             clear hB8 hsm))
                      clear d0 e0 hdn
                      go_wp2_with fail
                      go_roundg (n - (k + 1))
                      case measure => omega
                      case rel => exact ⟨k + 1, _, _, _, rfl, by omega, by go_num, HT8.out⟩
          · obtain rfl : k = n := by omega
            have HBX := Lib.hid hT.below
            clear hT hkn hk
            go_wp2_with fail
            refine (wakes14_any _).mono ?_
            rintro e wz ⟨rfl, hBz⟩
            go_wp2_with fail
            go_ret
            exact ⟨rfl, HBX.out.trans (hBz.mono HBX.out.size)⟩
      · have hmd := made_bad S w2 ⟨pe, ls⟩ pa pc 40 Hs.out hg HL2.out
        clear hg
        go_wp2_with fail
        refine hmd.mono ?_
        clear hmd
        rintro e w3 ⟨rfl, hB3⟩
        have HBX := Lib.hid (HBw2.out.trans (hB3.mono HBw2.out.size))
        clear hB3
        go_wp2_with fail
        refine (wakes14_any _).mono ?_
        rintro e wz ⟨rfl, hBz⟩
        go_wp2_with fail
        go_ret
        exact ⟨rfl, HBX.out.trans (hBz.mono HBX.out.size)⟩
  · skip
    go_wp2_with fail
    refine (wakes14_any _).mono ?_
    rintro e wz ⟨rfl, hBz⟩
    go_wp2_with fail
    go_ret
    exact ⟨rfl, HBw1.out.trans (hBz.mono HBw1.out.size)⟩
set_option maxRecDepth 100000 in
set_option maxHeartbeats 2000000 in
theorem handPlays_lifted (os : Os) (started : os.Started) (H : Type) (enc : TypeId × Value → H) :
    ReturnsInHanded {} Tryz.checked os 4 .any (Rows.handPlaysSpec.pre6 enc Tryz.prog Tryz.f4 Rows.handPlaysRow.domain false) (Rows.handPlaysSpec.post enc Tryz.prog Tryz.f4 false true false false) := by
  refine returnsInHanded_of_change (C := Tryz.checked) Tryz.ownP started (by kernel_rfl) Tryz.func4
    (ChangeSpec.witness6 (enc := enc) (C := Tryz.checked) false ⟨#[], #[.agg #[.int .i64 0, .slice none 0 0], .slice none 0 0], []⟩ 8 (by kernel_rfl) (by kernel_rfl) (by kernel_rfl) (by kernel_rfl)) ?_
  intro W base args ds gs before hval0 hW hcnd _
  have hval : ∀ (j : Nat) t v, Tryz.f4.params[j]? = some t → args[j]? = some v → Value.okWide Tryz.prog W .any base t v := hval0
  have hW' := hW
  obtain ⟨p, q, hA0, hV, rfl, hfz, hnd⟩ := hW
  have hA : DataW.TrodAll enc Tryz.prog W 0 (fun _ => true) true Tryz.f4.params.toList args.toList ds p := hA0
  rw [Tryz.params4] at hA hval
  obtain ⟨v0, vs0, d0, ds0, p0, q0, hargs, rfl, rfl, h0, r0⟩ := trodAll_cons hA
  obtain ⟨v1, vs1, d1, ds1, p1, q1, rfl, rfl, rfl, h1, r1⟩ := trodAll_cons r0
  obtain ⟨rfl, rfl, rfl⟩ := trodAll_nil r1
  obtain rfl : args = #[v0, v1] := by cases args; simp_all
  obtain ⟨rfl, rfl⟩ := trodVars_none hV
  obtain ⟨cs0, x0, hv0, hr0⟩ := open_arg (n := 9) (T := tyProj) (by kernel_rfl) (hval 0 24 v0 rfl rfl) h0
  obtain ⟨cs1, x1, hv1, hr1⟩ := open_arg (n := 9) (T := .slice tyStep) (by kernel_rfl) (hval 1 45 v1 rfl rfl) h1
  obtain ⟨oa, n, cap, ps, e1, hn1, hp1⟩ := rd_steps hr1
  simp only [tyProj, Ty.isStruct, if_true, Bool.false_eq_true, if_false] at hv0 hv1
  obtain ⟨pe, pa, ls, pc, e0, hp⟩ := rd_proj hr0
  subst e0
  rw [e1] at hv1
  subst hv0
  subst hv1
  clear hA0 hval0
  refine (handPlays_walk _ pe pa pc ls oa n cap ps hn1 W hp hp1).mono fun e W' ⟨he, hb⟩ => ?_
  subst he
  exact ⟨_, rfl, law_post Tryz.laidOutP (by kernel_rfl) rfl Tryz.underlying4 hW' rfl rfl rfl rfl hb⟩

theorem handPlays_holds : Rows.HandPlaysSaid :=
  OpenClaim.holds_of_wide 4 Tryz.f4 rfl rfl rfl rfl rfl rfl rfl ⟨rfl, rfl, rfl, rfl, rfl⟩ rfl rfl rfl rfl rfl (by kernel_rfl) Tryz.func4 (by kernel_rfl)
    (of_decide_eq_true (by kernel_rfl)) (by unfold Func.isWrapper; first | (rw [if_pos (by decide +kernel)]; kernel_rfl) | (rw [if_neg (by decide +kernel)]; exact ⟨rfl, rfl⟩))
    (fun os started H enc _ => handPlays_lifted os started H enc)
end Go.Proofs.YtnojjohkpkmliaaGreat
