/-
  The law RpcPlays: questions of any kind to any node, one behind the other: each answer, and how all nodes are behind it.
  Conditions: none.
-/
import Derived.Test.YtnojjohkpkmliaaGreatRSame
import Derived.Test.YtnojjohkpkmliaaGreatRNewNo
import Derived.Test.YtnojjohkpkmliaaGreatWakes13
import Derived.Test.YtnojjohkpkmliaaGreatFair13
import Derived.Test.YtnojjohkpkmliaaGreatCopyK
import Derived.Test.YtnojjohkpkmliaaGreatRow
namespace Go.Proofs.YtnojjohkpkmliaaGreat
open Go.RowKit Esch Go.ChangeShapes Go.WideShapes Go.ChangeAt

theorem small_ofR {ls : List (List Int)} (h : largeProj ls = false) : Small ls := by
  simp only [largeProj, Bool.or_eq_false_iff, decide_eq_false_iff_not, List.any_eq_false, decide_eq_true_eq] at h
  refine ⟨by omega, fun i hi => ?_⟩
  have hmem : ls.getD i [] ∈ ls := by
    rw [List.getD_eq_getElem?_getD, List.getElem?_eq_getElem hi]; exact List.getElem_mem hi
  have := h.2 _ hmem
  omega
/-- both kinds of nodes, in one state -/
structure Two (w0 : World) (nb qb c : Nat) (U R : Nat → Prop) (s : NdS) (w : World) : Prop where
  nd : ∃ T, T ≤ 16 * (c + 1) ∧ Nd w nb U T s
  rnd : ∃ T, T ≤ 16 * (c + 1) ∧ RNd w qb R T s
  apart : ∀ k, U k → ¬ R k
  old : ∀ k, U k ∨ R k → w0.heap.size ≤ k
  below : Below w0.heap.size w0 w
theorem Two.below' {w0 w w' : World} {nb qb c : Nat} {U R : Nat → Prop} {s : NdS} (h : Two w0 nb qb c U R s w) (hB : Below w.heap.size w w') : Two w0 nb qb c U R s w' := by
  obtain ⟨T, h1, h2⟩ := h.nd
  obtain ⟨T', h3, h4⟩ := h.rnd
  exact ⟨⟨T, h1, h2.below hB⟩, ⟨T', h3, h4.below hB⟩, h.apart, h.old, h.below.trans (hB.mono h.below.size)⟩
/-- one question to both -/
theorem Two.step {w0 w w1 w2 : World} {nb qb c T T' : Nat} {U R : Nat → Prop} {s s' : NdS} (h : Two w0 nb qb c U R s w) (hT : T ≤ 16 * (c + 1)) (hT' : T' ≤ 16 * (c + 1)) (hRl : ∀ k, R k → k < w.heap.size) (hUl : ∀ k, U k → k < w.heap.size)
    (h1 : Nd w1 nb (grow U w w1) (T + 16) s') (hM1 : Mod U w w1) (h2 : RNd w2 qb (grow R w1 w2) (T' + 16) s') (hM2 : Mod R w1 w2) : Two w0 nb qb (c + 1) (grow U w w1) (grow R w1 w2) s' w2 := by
  have z1 := hM1.size
  have z2 := hM2.size
  have z0 := h.below.size
  refine ⟨⟨T + 16, by omega, h1.mod hM2 (fun k hk hr => ?_)⟩, ⟨T' + 16, by omega, h2⟩, fun k hk hr => ?_, fun k hk => ?_, (h.below.trans (hM1.below_at h.below.size (fun k hk hu => ?_))).trans (hM2.below_at (by omega) (fun k hk hu => ?_))⟩
  · rcases hk with hk | hk
    · exact h.apart k hk hr
    · have := hRl k hr; omega
  · rcases hk with hk | hk
    · rcases hr with hr | hr
      · exact h.apart k hk hr
      · have := hUl k hk; omega
    · rcases hr with hr | hr
      · have := hRl k hr; omega
      · omega
  · rcases hk with (hk | hk) | (hk | hk)
    · exact h.old k (Or.inl hk)
    · omega
    · exact h.old k (Or.inr hk)
    · omega
  · have := h.old k (Or.inl hu); omega
  · have := h.old k (Or.inr hu); omega
theorem lists_below {S : Nat → Prop} {w w' : World} {a : Option Addr} {ls : List (List Int)} (h : ListsAt S w a ls) (hB : Below w.heap.size w w') : ListsAt S w' a ls := h.mod (F := none') (Mod.of_below hB) (fun _ _ _ => id)
def PlRel (w0 : World) (nb qb n g : Nat) (s11 : Value) (wr : World) : Prop := ∃ (k : Nat) (U R : Nat → Prop) (s : NdS), g = n - k ∧ k ≤ n ∧ s11 = .int .i64 k ∧ Two w0 nb qb k U R s wr
def NoPl (w0 : World) (g : Nat) (s11 : Value) (wr : World) : Prop := g = 0 ∧ s11 = .int .i64 0 ∧ Below w0.heap.size w0 wr
set_option maxRecDepth 100000 in
set_option maxHeartbeats 8000000 in
theorem rpcPlays_walk (S : Nat → Prop) (pe : Int) (pa : Option Addr) (pc : Nat) (ls : List (List Int)) (room : Int) (oa : Option Addr) (n cap : Nat) (qs : Nat → AskC) (hn : n ≤ 9223372036854775807) (w : World) (h : ListsAt S w pa ls) (hoa : AsksAt w oa n qs) :
    Calls Tryz.prog 3 #[.agg #[.int .i64 pe, .slice pa ls.length pc], .int .i64 room, .slice oa n cap] w fun r w' => r = .returned (.bool true) ∧ Below w.heap.size w w' := by
  obtain ⟨W0, hW0, hB0, hz0, p0, p1⟩ := oneBox w 24 (.int .i64 pe) (.slice pa ls.length pc)
  have hl0 := h.mod (F := none') (Mod.of_below hB0) (fun _ _ _ => id)
  have HW0 := Lib.hid hW0
  have HL0 := Lib.hid hl0
  have Hoa := Lib.hid hoa
  have hlp := largeProj_any S W0 pe pa pc ls hl0
  have HB0 := Lib.hid hB0
  clear hW0 h hl0 hoa hB0
  go_enter Tryz.func3, Tryz.ntmps3
  go_wp2_with fail
  rw [← HW0.out]
  refine hlp.mono ?_
  clear hlp
  rintro r w1 ⟨rfl, hB1⟩
  have Hsm : Hid (largeProj ls = false → Small ls) := Lib.hid small_ofR
  generalize largeProj ls = lg at *
  have HBw1 := Lib.hid (HB0.out.trans (hB1.mono HB0.out.size))
  have p01 := below_at hB1 p0 (cell_lt p0)
  have p11 := below_at hB1 p1 (cell_lt p1)
  have HL1 := Lib.hid (HL0.out.mod (F := none') (Mod.of_below hB1) (fun _ _ _ => id))
  clear hB1 p0 p1
  cases lg
  · have Hs : Hid (Small ls) := Lib.hid (Hsm.out rfl)
    clear Hsm
    have hfr := fair13_any w oa n cap qs hn Hoa.out w1 HBw1.out
    go_wp2_with fail
    refine hfr.mono ?_
    clear hfr
    rintro e w2 ⟨f, rfl, hf, hB2⟩
    have HBw2 := Lib.hid (HBw1.out.trans (hB2.mono HBw1.out.size))
    have p02 := below_at hB2 p01 (cell_lt p01)
    have p12 := below_at hB2 p11 (cell_lt p11)
    have HL2 := Lib.hid (HL1.out.mod (F := none') (Mod.of_below hB2) (fun _ _ _ => id))
    have Hf := Lib.hid hf
    clear hB2 hf p01 p11
    cases f
    · skip
      go_wp2_with fail
      refine (wakes13_any _).mono ?_
      rintro e wz ⟨rfl, hBz⟩
      go_wp2_with fail
      go_ret
      exact ⟨rfl, HBw2.out.trans (hBz.mono HBw2.out.size)⟩
    · have Hfa := Lib.hid (Hf.out rfl)
      have hcp := copyK_any S w2 pe pa pc ls Hs.out HL2.out
      unfold CopyPost at hcp
      clear Hf
      go_wp2_with fail
      refine hcp.mono ?_
      clear hcp
      rintro e w3 ⟨ca, cc, rfl, hcl, hB3⟩
      have HBw3 := Lib.hid (HBw2.out.trans (hB3.mono HBw2.out.size))
      have p03 := below_at hB3 p02 (cell_lt p02)
      have p13 := below_at hB3 p12 (cell_lt p12)
      have HL3 := Lib.hid (HL2.out.mod (F := none') (Mod.of_below hB3) (fun _ _ _ => id))
      have HCL := Lib.hid hcl
      clear hB3 hcl p02 p12
      by_cases hg : (⟨pe, ls⟩ : Proj).good
      · have Hg := Lib.hid hg
        clear hg
        by_cases hr : room < 1 ∨ 4096 < room
        · have Hr := Lib.hid hr
          clear hr
          have hnw := rpcNew_room _ w3 ⟨pe, ls⟩ ca cc room Hg.out HCL.out Hr.out
          go_wp2_with fail
          refine hnw.mono ?_
          clear hnw
          rintro e w4 ⟨rfl, hB4⟩
          have p04 := below_at hB4 p03 (cell_lt p03)
          have p14 := below_at hB4 p13 (cell_lt p13)
          have hrw := r13New_room S w4 ⟨pe, ls⟩ pa pc room Hg.out (lists_below HL3.out hB4) Hr.out
          have HB4 := Lib.hid (HBw3.out.trans (hB4.mono HBw3.out.size))
          clear hB4 p03 p13
          go_wp2_with fail
          refine hrw.mono ?_
          clear hrw
          rintro e w5 ⟨rfl, hB5⟩
          have HB5 := Lib.hid (HB4.out.trans (hB5.mono HB4.out.size))
          clear hB5 p04 p14
          go_wp2_with fail
          go_loopg [11] 0 (fun g s11 wr => NoPl w g s11 wr)
          case atStart => exact ⟨rfl, rfl, HB5.out⟩
          case round =>
            obtain ⟨rfl, rfl, hBr⟩ := hrel
            have HBr := Lib.hid hBr
            clear hBr
            by_cases hn0 : 0 < n
            · have hn0' : (0 : Int) < n := by omega
              go_wp2_with fail
              refine (wakes13_any _).mono ?_
              rintro e wz ⟨rfl, hBz⟩
              go_wp2_with fail
              go_ret
              exact ⟨rfl, HBr.out.trans (hBz.mono HBr.out.size)⟩
            · have hn0' : (n : Int) ≤ 0 := by omega
              go_wp2_with fail
              refine (wakes13_any _).mono ?_
              rintro e wz ⟨rfl, hBz⟩
              go_wp2_with fail
              go_ret
              exact ⟨rfl, HBr.out.trans (hBz.mono HBr.out.size)⟩
        · skip
          obtain ⟨rm, hrm⟩ : ∃ rm : Nat, room = rm := ⟨room.toNat, by omega⟩
          subst hrm
          have h1 : 1 ≤ rm := by omega
          have h2 : rm ≤ 4096 := by omega
          have hnw := rpcNew_nd _ w3 ⟨pe, ls⟩ ca cc rm Hg.out HCL.out h1 h2
          clear hr
          go_wp2_with fail
          refine hnw.mono ?_
          clear hnw
          rintro e w4 ⟨nb, rfl, hN4, hB4⟩
          have p04 := below_at hB4 p03 (cell_lt p03)
          have p14 := below_at hB4 p13 (cell_lt p13)
          have hrw := r13New_any S w4 ⟨pe, ls⟩ pa pc rm Hg.out (lists_below HL3.out hB4) h1 h2
          have HN4 := Lib.hid hN4
          have HB4 := Lib.hid hB4
          clear p03 p13 hN4 hB4
          go_wp2_with fail
          refine hrw.mono ?_
          clear hrw
          rintro e w5 ⟨qb, rfl, hR5, hB5⟩
          have HT := Lib.hid (show Two w nb qb 0 (grow none' w3 w4) (grow none' w4 w5) (nd0 ⟨pe, ls⟩ rm) w5 from by
            have z3 := HBw3.out.size
            have z4 := HB4.out.size
            exact ⟨⟨16, by omega, HN4.out.below hB5⟩, ⟨16, by omega, hR5⟩, fun k hk hr => by
              rcases hk with hk | hk
              · exact hk.elim
              · rcases hr with hr | hr
                · exact hr.elim
                · omega, fun k hk => by
              rcases hk with (hk | hk) | (hk | hk)
              · exact hk.elim
              · omega
              · exact hk.elim
              · omega, HBw3.out.trans ((HB4.out.trans (hB5.mono z4)).mono z3)⟩)
          clear hR5 hB5 p04 p14
          go_wp2_with fail
          go_loopg [11] n (fun g s11 wr => PlRel w nb qb n g s11 wr)
          case atStart => exact ⟨0, _, _, _, rfl, Nat.zero_le _, rfl, HT.out⟩
          case round =>
            clear HT
            obtain ⟨k, U, R, s, rfl, hk, rfl, hT⟩ := hrel
            by_cases hkn : k < n
            · obtain ⟨b, off, rfl, hb, hd, hl, c0, c1, c2, c3, c4, c5, c6, c7, c8⟩ := Hoa.out.get hkn
              obtain ⟨x, hx⟩ : ∃ x, x = qs k := ⟨_, rfl⟩
              rw [← hx] at hd hl c0 c1 c2 c3 c4 c5 c6 c7 c8
              clear hx
              obtain ⟨qk, qu, qe, qp, qz, qn, qd, qpe, qca, qls, qcc⟩ := x
              simp only at hd hl c0 c1 c2 c3 c4 c5 c6 c7 c8
              have hBr := hT.below
              have hbl : b < wr.heap.size := Nat.lt_of_lt_of_le hb hBr.size
              have d0 : wr.drew.cell? ⟨b, off + k * 9, none⟩ = some (.int .i64 qk) ∧ wr.drew.cell? ⟨b, off + k * 9 + 1, none⟩ = some (.int .i64 qu) ∧ wr.drew.cell? ⟨b, off + k * 9 + 2, none⟩ = some (.int .i64 qe) ∧ wr.drew.cell? ⟨b, off + k * 9 + 3, none⟩ = some (.int .i64 qp) ∧ wr.drew.cell? ⟨b, off + k * 9 + 4, none⟩ = some (.int .i64 qz) ∧ wr.drew.cell? ⟨b, off + k * 9 + 5, none⟩ = some (.int .i64 qn) ∧ wr.drew.cell? ⟨b, off + k * 9 + 6, none⟩ = some (.string qd) ∧ wr.drew.cell? ⟨b, off + k * 9 + 7, none⟩ = some (.int .i64 qpe) ∧ wr.drew.cell? ⟨b, off + k * 9 + 8, none⟩ = some (.slice qca qls.length qcc) := ⟨below_at hBr c0 hb, below_at hBr c1 hb, below_at hBr c2 hb, below_at hBr c3 hb, below_at hBr c4 hb, below_at hBr c5 hb, below_at hBr c6 hb, below_at hBr c7 hb, below_at hBr c8 hb⟩
              have hlr := old_below hl hBr
              have HOL := Lib.hid hT.old
              obtain ⟨T, hTT, hN⟩ := hT.nd
              obtain ⟨T', hTT', hR⟩ := hT.rnd
              have HUl := Lib.hid hN.lt
              have HRl := Lib.hid hR.lt
              have hk150 : k < 150 := by have := Hfa.out.1; omega
              obtain ⟨r, hr⟩ : ∃ r, r = s.do ⟨qk, qu, qe, qp, qz, qn, qd, ⟨qpe, qls⟩⟩ := ⟨_, rfl⟩
              have hdo : Calls Tryz.prog 12 #[.pointer (some ⟨nb, 0, none⟩), .agg #[.int .i64 qk, .int .i64 qu, .int .i64 qe, .int .i64 qp, .int .i64 qz, .int .i64 qn, .string qd, .int .i64 qpe, .slice qca qls.length qcc]] wr.drew (NdPost wr.drew nb U T r) := by
                rw [hr]
                exact rpcDo_all ⟨qk, qu, qe, qp, qz, qn, qd, ⟨qpe, qls⟩⟩ qca qcc (hN.mod (F := none') ((Mod.refl _ wr).drew) (fun _ _ => id)) (by omega) hd _ (hlr.mod (F := none') ((Mod.refl _ wr).drew) (fun _ _ _ => id)) (fun j hj _ hu => by have := HOL.out j (Or.inl hu); have hj : j < w.heap.size := hj; omega)
              have HRD := Lib.hid (show ∀ W (U' : Nat → Prop), Mod U wr.drew W → Calls Tryz.prog 13 #[.pointer (some ⟨qb, 0, none⟩), .agg #[.int .i64 qk, .int .i64 qu, .int .i64 qe, .int .i64 qp, .int .i64 qz, .int .i64 qn, .string qd, .int .i64 qpe, .slice qca qls.length qcc]] W (RNdPost W qb R T' r) from fun W _ hM => by
                rw [hr]
                have hM' : Mod U wr W := ((Mod.refl U wr).drew).trans hM
                exact rNdDo_all ⟨qk, qu, qe, qp, qz, qn, qd, ⟨qpe, qls⟩⟩ qca qcc (hR.mod hM' (fun j hj hu => hT.apart j hu hj)) (by omega) hd _ (hlr.mod hM' (fun j hj _ hu => by have := HOL.out j (Or.inl hu); have hj : j < w.heap.size := hj; omega)) (fun j hj _ hu => by have := HOL.out j (Or.inr hu); have hj : j < w.heap.size := hj; omega))
              obtain ⟨⟨xc, xn, xd, ⟨xpe, xls⟩, xm, xs, xe⟩, s'⟩ := r
              have HT := Lib.hid hT
              have i0 : (0 : Int) ≤ k := by omega
              have i1 : (k : Int) < n := by omega
              clear hT hBr hl hlr hN hR hr c0 c1 c2 c3 c4 c5 c6 c7 c8
              go_wp2_with fail
              go_region_held3 (fun w' => w'.cell? ⟨b, off + k * 9, none⟩ = some (.int .i64 qk) ∧ w'.cell? ⟨b, off + k * 9 + 1, none⟩ = some (.int .i64 qu) ∧ w'.cell? ⟨b, off + k * 9 + 2, none⟩ = some (.int .i64 qe) ∧ w'.cell? ⟨b, off + k * 9 + 3, none⟩ = some (.int .i64 qp) ∧ w'.cell? ⟨b, off + k * 9 + 4, none⟩ = some (.int .i64 qz) ∧ w'.cell? ⟨b, off + k * 9 + 5, none⟩ = some (.int .i64 qn) ∧ w'.cell? ⟨b, off + k * 9 + 6, none⟩ = some (.string qd) ∧ w'.cell? ⟨b, off + k * 9 + 7, none⟩ = some (.int .i64 qpe) ∧ w'.cell? ⟨b, off + k * 9 + 8, none⟩ = some (.slice qca qls.length qcc))
                (first
                  | with_reducible exact d0
                  | with_reducible exact d1
                  | with_reducible exact d2
                  | with_reducible exact d3
                  | with_reducible exact d4)
                (first
                  | (go_at_call 12; (with_reducible refine hdo.mono ?_); rintro e w6 ⟨a6, c6, rfl, hl6, hN6, hM6⟩
                     simp only at hl6
                     have d1 : w6.cell? ⟨b, off + k * 9, none⟩ = some (.int .i64 qk) ∧ w6.cell? ⟨b, off + k * 9 + 1, none⟩ = some (.int .i64 qu) ∧ w6.cell? ⟨b, off + k * 9 + 2, none⟩ = some (.int .i64 qe) ∧ w6.cell? ⟨b, off + k * 9 + 3, none⟩ = some (.int .i64 qp) ∧ w6.cell? ⟨b, off + k * 9 + 4, none⟩ = some (.int .i64 qz) ∧ w6.cell? ⟨b, off + k * 9 + 5, none⟩ = some (.int .i64 qn) ∧ w6.cell? ⟨b, off + k * 9 + 6, none⟩ = some (.string qd) ∧ w6.cell? ⟨b, off + k * 9 + 7, none⟩ = some (.int .i64 qpe) ∧ w6.cell? ⟨b, off + k * 9 + 8, none⟩ = some (.slice qca qls.length qcc) := ⟨hM6.at d0.1 (fun hu => by have := HOL.out b (Or.inl hu); omega), hM6.at d0.2.1 (fun hu => by have := HOL.out b (Or.inl hu); omega), hM6.at d0.2.2.1 (fun hu => by have := HOL.out b (Or.inl hu); omega), hM6.at d0.2.2.2.1 (fun hu => by have := HOL.out b (Or.inl hu); omega), hM6.at d0.2.2.2.2.1 (fun hu => by have := HOL.out b (Or.inl hu); omega), hM6.at d0.2.2.2.2.2.1 (fun hu => by have := HOL.out b (Or.inl hu); omega), hM6.at d0.2.2.2.2.2.2.1 (fun hu => by have := HOL.out b (Or.inl hu); omega), hM6.at d0.2.2.2.2.2.2.2.1 (fun hu => by have := HOL.out b (Or.inl hu); omega), hM6.at d0.2.2.2.2.2.2.2.2 (fun hu => by have := HOL.out b (Or.inl hu); omega)⟩
                     have hrd := HRD.out w6 U hM6
                     have HL6 := Lib.hid hl6
                     have HN6 := Lib.hid hN6
                     have HM6 := Lib.hid (show Mod U wr w6 from ((Mod.refl U wr).drew).trans hM6)
                     clear hdo hl6 hN6 hM6)
                  | (go_at_call 13; (with_reducible refine hrd.mono ?_); rintro e w7 ⟨a7, c7, rfl, hl7, hR7, hM7⟩
                     simp only at hl7
                     have d2 : w7.cell? ⟨b, off + k * 9, none⟩ = some (.int .i64 qk) ∧ w7.cell? ⟨b, off + k * 9 + 1, none⟩ = some (.int .i64 qu) ∧ w7.cell? ⟨b, off + k * 9 + 2, none⟩ = some (.int .i64 qe) ∧ w7.cell? ⟨b, off + k * 9 + 3, none⟩ = some (.int .i64 qp) ∧ w7.cell? ⟨b, off + k * 9 + 4, none⟩ = some (.int .i64 qz) ∧ w7.cell? ⟨b, off + k * 9 + 5, none⟩ = some (.int .i64 qn) ∧ w7.cell? ⟨b, off + k * 9 + 6, none⟩ = some (.string qd) ∧ w7.cell? ⟨b, off + k * 9 + 7, none⟩ = some (.int .i64 qpe) ∧ w7.cell? ⟨b, off + k * 9 + 8, none⟩ = some (.slice qca qls.length qcc) := ⟨hM7.at d1.1 (fun hu => by have := HOL.out b (Or.inr hu); omega), hM7.at d1.2.1 (fun hu => by have := HOL.out b (Or.inr hu); omega), hM7.at d1.2.2.1 (fun hu => by have := HOL.out b (Or.inr hu); omega), hM7.at d1.2.2.2.1 (fun hu => by have := HOL.out b (Or.inr hu); omega), hM7.at d1.2.2.2.2.1 (fun hu => by have := HOL.out b (Or.inr hu); omega), hM7.at d1.2.2.2.2.2.1 (fun hu => by have := HOL.out b (Or.inr hu); omega), hM7.at d1.2.2.2.2.2.2.1 (fun hu => by have := HOL.out b (Or.inr hu); omega), hM7.at d1.2.2.2.2.2.2.2.1 (fun hu => by have := HOL.out b (Or.inr hu); omega), hM7.at d1.2.2.2.2.2.2.2.2 (fun hu => by have := HOL.out b (Or.inr hu); omega)⟩
                     have hT7 := HT.out.step hTT hTT' HRl.out HUl.out HN6.out HM6.out hR7 hM7
                     have hae := answer_eq (fun _ => True) xc xn xd xpe a6 a7 c6 c7 xls xm xs xe w7 ((HL6.out.mod hM7 (fun j hj _ hu => by have hj : wr.heap.size ≤ j := hj; have := HRl.out j hu; omega)).sub (fun _ _ _ => trivial)) (hl7.sub (fun _ _ _ => trivial))
                     have HT7 := Lib.hid hT7
                     clear hrd hl7 hR7 hM7 hT7)
                  | (go_at_call 11; (with_reducible refine hae.mono ?_); rintro e w8 ⟨rfl, hB8⟩
                     have hM8 := Mod.of_below (F := none') hB8
                     have d3 : w8.cell? ⟨b, off + k * 9, none⟩ = some (.int .i64 qk) ∧ w8.cell? ⟨b, off + k * 9 + 1, none⟩ = some (.int .i64 qu) ∧ w8.cell? ⟨b, off + k * 9 + 2, none⟩ = some (.int .i64 qe) ∧ w8.cell? ⟨b, off + k * 9 + 3, none⟩ = some (.int .i64 qp) ∧ w8.cell? ⟨b, off + k * 9 + 4, none⟩ = some (.int .i64 qz) ∧ w8.cell? ⟨b, off + k * 9 + 5, none⟩ = some (.int .i64 qn) ∧ w8.cell? ⟨b, off + k * 9 + 6, none⟩ = some (.string qd) ∧ w8.cell? ⟨b, off + k * 9 + 7, none⟩ = some (.int .i64 qpe) ∧ w8.cell? ⟨b, off + k * 9 + 8, none⟩ = some (.slice qca qls.length qcc) := ⟨hM8.at d2.1 id, hM8.at d2.2.1 id, hM8.at d2.2.2.1 id, hM8.at d2.2.2.2.1 id, hM8.at d2.2.2.2.2.1 id, hM8.at d2.2.2.2.2.2.1 id, hM8.at d2.2.2.2.2.2.2.1 id, hM8.at d2.2.2.2.2.2.2.2.1 id, hM8.at d2.2.2.2.2.2.2.2.2 id⟩
                     have HT8 := Lib.hid (HT7.out.below' hB8)
                     obtain ⟨T8, -, hN8⟩ := HT8.out.nd
                     obtain ⟨T8', -, hR8⟩ := HT8.out.rnd
                     have hsm := same_any hN8 hR8
                     clear hae hB8 hN8 hR8)
                  | (go_at_call 14; (with_reducible refine hsm.mono ?_); rintro e w9 ⟨rfl, hB9⟩
                     have hM9 := Mod.of_below (F := none') hB9
                     have d4 : w9.cell? ⟨b, off + k * 9, none⟩ = some (.int .i64 qk) ∧ w9.cell? ⟨b, off + k * 9 + 1, none⟩ = some (.int .i64 qu) ∧ w9.cell? ⟨b, off + k * 9 + 2, none⟩ = some (.int .i64 qe) ∧ w9.cell? ⟨b, off + k * 9 + 3, none⟩ = some (.int .i64 qp) ∧ w9.cell? ⟨b, off + k * 9 + 4, none⟩ = some (.int .i64 qz) ∧ w9.cell? ⟨b, off + k * 9 + 5, none⟩ = some (.int .i64 qn) ∧ w9.cell? ⟨b, off + k * 9 + 6, none⟩ = some (.string qd) ∧ w9.cell? ⟨b, off + k * 9 + 7, none⟩ = some (.int .i64 qpe) ∧ w9.cell? ⟨b, off + k * 9 + 8, none⟩ = some (.slice qca qls.length qcc) := ⟨hM9.at d3.1 id, hM9.at d3.2.1 id, hM9.at d3.2.2.1 id, hM9.at d3.2.2.2.1 id, hM9.at d3.2.2.2.2.1 id, hM9.at d3.2.2.2.2.2.1 id, hM9.at d3.2.2.2.2.2.2.1 id, hM9.at d3.2.2.2.2.2.2.2.1 id, hM9.at d3.2.2.2.2.2.2.2.2 id⟩
                     have HT9 := Lib.hid (HT8.out.below' hB9)
                     clear hsm hB9))
              clear d0 d1 d2 d3 d4
              go_wp2_with fail
              go_roundg (n - (k + 1))
              case measure => omega
              case rel => exact ⟨k + 1, _, _, _, rfl, by omega, by go_num, HT9.out⟩
            · obtain rfl : k = n := by omega
              have HBX := Lib.hid hT.below
              clear hT hkn hk
              go_wp2_with fail
              refine (wakes13_any _).mono ?_
              rintro e wz ⟨rfl, hBz⟩
              go_wp2_with fail
              go_ret
              exact ⟨rfl, HBX.out.trans (hBz.mono HBX.out.size)⟩
      · have Hg := Lib.hid hg
        clear hg
        have hnw := rpcNew_bad _ w3 ⟨pe, ls⟩ ca cc room Hg.out HCL.out
        go_wp2_with fail
        refine hnw.mono ?_
        clear hnw
        rintro e w4 ⟨rfl, hB4⟩
        have p04 := below_at hB4 p03 (cell_lt p03)
        have p14 := below_at hB4 p13 (cell_lt p13)
        have hrw := r13New_bad S w4 ⟨pe, ls⟩ pa pc room Hg.out (lists_below HL3.out hB4)
        have HB4 := Lib.hid (HBw3.out.trans (hB4.mono HBw3.out.size))
        clear hB4 p03 p13
        go_wp2_with fail
        refine hrw.mono ?_
        clear hrw
        rintro e w5 ⟨rfl, hB5⟩
        have HB5 := Lib.hid (HB4.out.trans (hB5.mono HB4.out.size))
        clear hB5 p04 p14
        go_wp2_with fail
        go_loopg [11] 0 (fun g s11 wr => NoPl w g s11 wr)
        case atStart => exact ⟨rfl, rfl, HB5.out⟩
        case round =>
          obtain ⟨rfl, rfl, hBr⟩ := hrel
          have HBr := Lib.hid hBr
          clear hBr
          by_cases hn0 : 0 < n
          · have hn0' : (0 : Int) < n := by omega
            go_wp2_with fail
            refine (wakes13_any _).mono ?_
            rintro e wz ⟨rfl, hBz⟩
            go_wp2_with fail
            go_ret
            exact ⟨rfl, HBr.out.trans (hBz.mono HBr.out.size)⟩
          · have hn0' : (n : Int) ≤ 0 := by omega
            go_wp2_with fail
            refine (wakes13_any _).mono ?_
            rintro e wz ⟨rfl, hBz⟩
            go_wp2_with fail
            go_ret
            exact ⟨rfl, HBr.out.trans (hBz.mono HBr.out.size)⟩
  · skip
    go_wp2_with fail
    refine (wakes13_any _).mono ?_
    rintro e wz ⟨rfl, hBz⟩
    go_wp2_with fail
    go_ret
    exact ⟨rfl, HBw1.out.trans (hBz.mono HBw1.out.size)⟩
set_option maxRecDepth 100000 in
set_option maxHeartbeats 2000000 in
theorem rpcPlays_lifted (os : Os) (started : os.Started) (H : Type) (enc : TypeId × Value → H) :
    ReturnsInHanded {} Tryz.checked os 3 .any (Rows.rpcPlaysSpec.pre6 enc Tryz.prog Tryz.f3 Rows.rpcPlaysRow.domain false) (Rows.rpcPlaysSpec.post enc Tryz.prog Tryz.f3 false true false false) := by
  refine returnsInHanded_of_change (C := Tryz.checked) Tryz.ownP started (by kernel_rfl) Tryz.func3
    (ChangeSpec.witness6 (enc := enc) (C := Tryz.checked) false ⟨#[], #[.agg #[.int .i64 0, .slice none 0 0], .int .i64 0, .slice none 0 0], []⟩ 8 (by kernel_rfl) (by kernel_rfl) (by kernel_rfl) (by kernel_rfl)) ?_
  intro W base args ds gs before hval0 hW hcnd _
  have hval : ∀ (j : Nat) t v, Tryz.f3.params[j]? = some t → args[j]? = some v → Value.okWide Tryz.prog W .any base t v := hval0
  have hW' := hW
  obtain ⟨p, q, hA0, hV, rfl, hfz, hnd⟩ := hW
  have hA : DataW.TrodAll enc Tryz.prog W 0 (fun _ => true) true Tryz.f3.params.toList args.toList ds p := hA0
  rw [Tryz.params3] at hA hval
  obtain ⟨v0, vs0, d0, ds0, p0, q0, hargs, rfl, rfl, h0, r0⟩ := trodAll_cons hA
  obtain ⟨v1, vs1, d1, ds1, p1, q1, rfl, rfl, rfl, h1, r1⟩ := trodAll_cons r0
  obtain ⟨v2, vs2, d2, ds2, p2, q2, rfl, rfl, rfl, h2, r2⟩ := trodAll_cons r1
  obtain ⟨rfl, rfl, rfl⟩ := trodAll_nil r2
  obtain rfl : args = #[v0, v1, v2] := by cases args; simp_all
  obtain ⟨rfl, rfl⟩ := trodVars_none hV
  obtain ⟨cs0, x0, hv0, hr0⟩ := open_arg (n := 9) (T := tyProj) (by kernel_rfl) (hval 0 24 v0 rfl rfl) h0
  obtain ⟨cs1, x1, hv1, hr1⟩ := open_arg (n := 9) (T := .int .i64) (by kernel_rfl) (hval 1 3 v1 rfl rfl) h1
  obtain ⟨cs2, x2, hv2, hr2⟩ := open_arg (n := 9) (T := .slice tyAsk) (by kernel_rfl) (hval 2 25 v2 rfl rfl) h2
  obtain ⟨oa, n, cap, qs, e2, hn2, hq2⟩ := rd_asks hr2
  simp only [tyProj, Ty.isStruct, if_true, Bool.false_eq_true, if_false] at hv0 hv1 hv2
  obtain ⟨pe, pa, ls, pc, e0, hp⟩ := rd_proj hr0
  obtain ⟨rm, rfl, rfl, -⟩ := rd_int.1 hr1
  subst e0
  rw [e2] at hv2
  subst hv0
  subst hv1
  subst hv2
  clear hA0 hval0
  refine (rpcPlays_walk _ pe pa pc ls rm oa n cap qs hn2 W hp hq2).mono fun e W' ⟨he, hb⟩ => ?_
  subst he
  exact ⟨_, rfl, law_post Tryz.laidOutP (by kernel_rfl) rfl Tryz.underlying4 hW' rfl rfl rfl rfl hb⟩

theorem rpcPlays_holds : Rows.RpcPlaysSaid :=
  OpenClaim.holds_of_wide 3 Tryz.f3 rfl rfl rfl rfl rfl rfl rfl ⟨rfl, rfl, rfl, rfl, rfl⟩ rfl rfl rfl rfl rfl (by kernel_rfl) Tryz.func3 (by kernel_rfl)
    (of_decide_eq_true (by kernel_rfl)) (by unfold Func.isWrapper; first | (rw [if_pos (by decide +kernel)]; kernel_rfl) | (rw [if_neg (by decide +kernel)]; exact ⟨rfl, rfl⟩))
    (fun os started H enc _ => rpcPlays_lifted os started H enc)
end Go.Proofs.YtnojjohkpkmliaaGreat
