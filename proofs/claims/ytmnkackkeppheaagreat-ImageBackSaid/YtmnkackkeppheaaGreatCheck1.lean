/- package tree: Check, where all hangs together -/
import Derived.Test.YtmnkackkeppheaaGreatReach1
import Derived.Test.YtmnkackkeppheaaGreatPkTre
import Derived.Test.YtmnkackkeppheaaGreatGoodM
namespace Esch
open Go Go.RowKit
theorem sortI_perm (l : List Int) : (sortI l).Perm l := List.mergeSort_perm l _
end Esch
namespace Go.Proofs.YtmnkackkeppheaaGreat
open Go.RowKit Esch Go.Shelf

theorem hq_or {vm : Int} {h : Bool} (hn : ¬ (vm = 0 ∧ h = false)) : vm ≠ 0 ∨ h = true := by
  cases h
  · exact Or.inl fun e => hn ⟨e, rfl⟩
  · exact Or.inr rfl
def EntC (s : TrS) (e : Ent) : Prop := s.t.has e.2 = true ∧ s.kind e.1.1 = 1
def Ck1 (W : World) (s : TrS) (l : List Ent) (g : Nat) (s27 : Value) (wr : World) : Prop := ∃ i : Nat, g = l.length - i ∧ i ≤ l.length ∧ s27 = .int .i64 i ∧ (∀ k, k < i → EntC s (l.getD k default)) ∧ Below W.heap.size W wr
def Ck2 (W : World) (s : TrS) (q : List Int) (g : Nat) (s60 : Value) (wr : World) : Prop := ∃ i : Nat, g = q.length - i ∧ i ≤ q.length ∧ s60 = .int .i64 i ∧ (∀ k, k < i → q.getD k 0 ≠ 1 → InoC s (q.getD k 0)) ∧ Below W.heap.size W wr
def CkPost (s : TrS) (w : World) (e : Ending) (w' : World) : Prop := ∃ v : Bool, e = .returned (.bool v) ∧ (v = true ↔ CkP s) ∧ Below w.heap.size w w'
theorem ck_no {s : TrS} {w w' : World} (h : ¬ CkP s) (hB : Below w.heap.size w w') : CkPost s w (.returned (.bool false)) w' := ⟨false, rfl, ⟨fun e => (by cases e), fun g => absurd g h⟩, hB⟩
set_option maxRecDepth 100000 in
set_option maxHeartbeats 8000000 in
theorem check_any (w : World) (b : Nat) (S : Nat → Prop) (s : TrS) (h : TreeAt w b S s) (hl : s.n.m.length ≤ 100000) (hl2 : s.t.m.length ≤ 100000) :
    Calls Tryz.prog 97 #[.pointer (some ⟨b, 0, none⟩)] w (CkPost s w) := by
  have hrd := reached_any w b S s h hl
  have hkd := fun W hW d => trKind_any W b S s hW d
  have H := Lib.hid h
  obtain ⟨sb, lt, ib, tb, S1, S2, c0, c1, ht, hn, s1, s2, dd, b1, b2⟩ := h
  have hal := fun W hB => dirAll_any W tb S2 s.n (hn.below' (w' := W) hB) hl
  have hst := fun W hB i => inoStat_any W ib S1 s.t (ht.below' (w' := W) hB) i
  have hia := fun W hB => inoAll_any W ib S1 s.t (ht.below' (w' := W) hB) hl2
  have hop := fun W hB i => inoOpens_any W ib S1 s.t (ht.below' (w' := W) hB) i
  have Hl := Lib.hid hl
  have Hl2 := Lib.hid hl2
  clear ht hn s1 s2 dd b1 b2 sb lt hl hl2
  have hlb := cell_lt c0
  go_enter Tryz.func97, Tryz.ntmps97
  go_wp2_with fail
  refine hrd.mono ?_
  clear hrd
  rintro e W2 ⟨mb, nb, M, C, rfl, hM, hC, hMv, hCv, hB2⟩
  have d0 := below_at hB2 c0 hlb
  have d1 := below_at hB2 c1 hlb
  have hk1 := look0 hC keyInt Tryz.underlying195 zeroI 1
  have hal2 := hal W2 hB2
  have HM := Lib.hid hM
  have HC := Lib.hid hC
  have HMv := Lib.hid hMv
  have HCv := Lib.hid hCv
  have HB2 := Lib.hid hB2
  clear hM hC hMv hCv hB2 hal
  go_wp2_with fail
  refine hal2.mono ?_
  clear hal2
  rintro e W3 ⟨ao, cap, l, rfl, hsl, he, hcp, hB3⟩
  have HSl := Lib.hid hsl
  have HE := Lib.hid he
  have HB3 := Lib.hid hB3
  clear hsl he hcp hB3
  go_wp2_with fail
  go_loopg [27] l.length (fun g s27 wr => Ck1 W3 s l g s27 wr)
  case atStart => exact ⟨0, rfl, Nat.zero_le _, rfl, fun k hk => absurd hk (Nat.not_lt_zero _), Below.refl _ _⟩
  case round =>
    obtain ⟨i, rfl, hil, rfl, hen, hB⟩ := hrel
    have HB := Lib.hid hB
    have HEN := Lib.hid hen
    clear hB hen
    have hpl : l.Perm s.n.m := by have := HSl.out.1; rwa [List.filter_eq_self.2 (fun _ _ => rfl)] at this
    have hll : l.length ≤ 100000 := by rw [hpl.length_eq]; exact Hl.out
    have HP := Lib.hid hpl
    clear hpl
    have hBr := HB2.out.trans ((HB3.out.trans (HB.out.mono HB3.out.size)).mono HB2.out.size)
    have e0 := below_at hBr c0 hlb
    have e1 := below_at hBr c1 hlb
    by_cases hlt : i < l.length
    · obtain ⟨bk, off, rfl, hSb, hbl, hc⟩ := HE.out (by omega)
      obtain ⟨a0, a1, a2⟩ := hc i hlt
      have f0 := below_at HB.out a0 hbl
      have f1 := below_at HB.out a1 hbl
      have f2 := below_at HB.out a2 hbl
      have hbl' : bk < wr.heap.size := cell_lt f0
      have hi1 : i + 1 ≤ l.length := hlt
      have hms : l.length - (i + 1) < l.length - i := by omega
      have hil2 : (0 : Int) ≤ i ∧ (i : Int) < l.length := by omega
      have hwr1 := Lib.hid (show wrap64 ((i : Int) + 1) = ((i + 1 : Nat) : Int) by unfold wrap64; omega)
      have hmem := HP.out.mem_iff.1 (show l.getD i default ∈ l by rw [List.getD_eq_getElem?_getD, List.getElem?_eq_getElem hlt]; exact List.getElem_mem hlt)
      have HNX : Hid (EntC s (l.getD i default) → ∀ k, k < i + 1 → EntC s (l.getD k default)) := Lib.hid (fun h k hk => by
        by_cases e : k = i
        · rw [e]; exact h
        · exact HEN.out k (by omega))
      generalize l.getD i default = ent at *
      obtain ⟨⟨ed, en⟩, ei⟩ := ent
      have HME : Hid (¬ EntC s ((ed, en), ei) → ¬ CkP s) := Lib.hid (fun h g => h (g.ent _ hmem))
      clear hmem
      clear a0 a1 a2 hc
      obtain ⟨W5, hW5⟩ : ∃ W5, W5 = wr.alloc (.cells #[.int .i64 ed, .string (bs en), .int .i64 ei] 106) := ⟨_, rfl⟩
      have hB5 : Below wr.heap.size wr W5 := by rw [hW5]; exact belC (Below.refl _ _)
      have g0 : W5.cell? ⟨wr.heap.size, 0, none⟩ = some (.int .i64 ed) := by rw [hW5]; go_simp
      have g2 : W5.cell? ⟨wr.heap.size, 2, none⟩ = some (.int .i64 ei) := by rw [hW5]; go_simp
      have k0 := below_at hB5 e0 (cell_lt e0)
      have hBr5 := hBr.trans (hB5.mono hBr.size)
      have HW5 := Lib.hid hW5
      clear hW5
      go_wp2_with fail
      rw [← HW5.out]
      have hBd : Below W5.heap.size W5 W5.drew := by exact belC (Below.refl _ _)
      obtain ⟨Wz, hWz⟩ : ∃ Wz, Wz = (W5.alloc (.cells #[.int .i64 0, .int .i64 0, .int .i64 0, .int .i64 0] 197)).drew := ⟨_, rfl⟩
      have hBz : Below W5.heap.size W5 Wz := by rw [hWz]; exact belC (Below.refl _ _)
      have hst3 := hst W5.drew (hBr5.trans (hBd.mono hBr5.size)) ei
      have hst4 := hst Wz (hBr5.trans (hBz.mono hBr5.size)) ei
      have z0 : Wz.cell? ⟨W5.heap.size, 0, none⟩ = some (.int .i64 0) := by rw [hWz]; go_simp
      have z1 : Wz.cell? ⟨W5.heap.size, 1, none⟩ = some (.int .i64 0) := by rw [hWz]; go_simp
      have z2 : Wz.cell? ⟨W5.heap.size, 2, none⟩ = some (.int .i64 0) := by rw [hWz]; go_simp
      have z3 : Wz.cell? ⟨W5.heap.size, 3, none⟩ = some (.int .i64 0) := by rw [hWz]; go_simp
      have v0 : Wz.frozen? ⟨W5.heap.size, 0, none⟩ = false := by rw [hWz]; go_simp
      have v1 : Wz.frozen? ⟨W5.heap.size, 1, none⟩ = false := by rw [hWz]; go_simp
      have v2 : Wz.frozen? ⟨W5.heap.size, 2, none⟩ = false := by rw [hWz]; go_simp
      have v3 : Wz.frozen? ⟨W5.heap.size, 3, none⟩ = false := by rw [hWz]; go_simp
      have HBz := Lib.hid hBz
      have HBd := Lib.hid hBd
      have hKz : Wz.cell? ⟨b, 0, none⟩ = some (.pointer (some ⟨ib, 0, none⟩)) ∧ Wz.cell? ⟨wr.heap.size, 2, none⟩ = some (.int .i64 ei) := ⟨below_at hBz k0 (cell_lt k0), below_at hBz g2 (cell_lt g2)⟩
      have gz0 := below_at hBz g0 (cell_lt g0)
      clear hBz hBd
      rw [hWz] at hst4 hKz
      obtain ⟨⟨y0, y1, y2, y3, y4, yp⟩, hy⟩ : ∃ y, y = s.t.at ei := ⟨_, rfl⟩
      obtain ⟨hb, hhb⟩ : ∃ hb, hb = s.t.has ei := ⟨_, rfl⟩
      rw [← hy, ← hhb] at hst3 hst4
      simp only [statV] at hst3 hst4
      have hkd3 := fun W hW => hkd W hW ed
      obtain ⟨kd, hkk⟩ : ∃ kd, kd = s.kind ed := ⟨_, rfl⟩
      rw [← hkk] at hkd3
      have HEC : Hid (EntC s ((ed, en), ei) ↔ hb = true ∧ kd = 1) := Lib.hid (by rw [hhb, hkk]; exact Iff.rfl)
      clear hhb hkk
      have hKd : W5.drew.cell? ⟨b, 0, none⟩ = some (.pointer (some ⟨ib, 0, none⟩)) ∧ W5.drew.cell? ⟨wr.heap.size, 2, none⟩ = some (.int .i64 ei) := ⟨k0, g2⟩
      have hlk := cell_lt k0
      have hlg := cell_lt g2
      clear hy
      go_region_held3 (fun W' => W'.cell? ⟨b, 0, none⟩ = some (.pointer (some ⟨ib, 0, none⟩)) ∧ W'.cell? ⟨wr.heap.size, 2, none⟩ = some (.int .i64 ei))
        (first
          | with_reducible exact hKd
          | with_reducible exact hK2
          | with_reducible exact hK3 _
          | with_reducible exact hKz
          | with_reducible exact hKm
          | with_reducible exact hKn _ _ _ _)
        (first
          | (go_at_call 92; (with_reducible refine hst3.mono ?_); rintro e w6 ⟨rfl, hB6⟩
             have hK2 : w6.cell? ⟨b, 0, none⟩ = some (.pointer (some ⟨ib, 0, none⟩)) ∧ w6.cell? ⟨wr.heap.size, 2, none⟩ = some (.int .i64 ei) := ⟨below_at hB6 k0 hlk, below_at hB6 g2 hlg⟩
             have m0 := cell_lt hK2.1
             have m2 := cell_lt hK2.2
             have hK3 : ∀ o, (w6.alloc o).cell? ⟨b, 0, none⟩ = some (.pointer (some ⟨ib, 0, none⟩)) ∧ (w6.alloc o).cell? ⟨wr.heap.size, 2, none⟩ = some (.int .i64 ei) := fun o => ⟨(cell_alloc_lt _ _ _ _ m0).trans hK2.1, (cell_alloc_lt _ _ _ _ m2).trans hK2.2⟩
             have g06 := below_at hB6 g0 (cell_lt g0)
             have HB6 := Lib.hid (HBd.out.trans hB6)
             clear hB6)
          | (go_at_call 92; (with_reducible refine hst4.mono ?_); rintro e w6 ⟨rfl, hB6⟩
             rw [← hWz] at hB6 hKz
             have hKm : w6.cell? ⟨b, 0, none⟩ = some (.pointer (some ⟨ib, 0, none⟩)) ∧ w6.cell? ⟨wr.heap.size, 2, none⟩ = some (.int .i64 ei) := ⟨below_at hB6 hKz.1 (cell_lt hKz.1), below_at hB6 hKz.2 (cell_lt hKz.2)⟩
             have n0 := below_at hB6 z0 (cell_lt z0)
             have n1 := below_at hB6 z1 (cell_lt z1)
             have n2 := below_at hB6 z2 (cell_lt z2)
             have n3 := below_at hB6 z3 (cell_lt z3)
             have u0 := (hB6.frozen (p := ⟨W5.heap.size, 0, none⟩) (cell_lt z0)).trans v0
             have u1 := (hB6.frozen (p := ⟨W5.heap.size, 1, none⟩) (cell_lt z0)).trans v1
             have u2 := (hB6.frozen (p := ⟨W5.heap.size, 2, none⟩) (cell_lt z0)).trans v2
             have u3 := (hB6.frozen (p := ⟨W5.heap.size, 3, none⟩) (cell_lt z0)).trans v3
             have hln := cell_lt n0
             have hKn : ∀ a0 a1 a2 a3, ((((w6.setCell ⟨W5.heap.size, 0, none⟩ a0).setCell ⟨W5.heap.size, 1, none⟩ a1).setCell ⟨W5.heap.size, 2, none⟩ a2).setCell ⟨W5.heap.size, 3, none⟩ a3).cell? ⟨b, 0, none⟩ = some (.pointer (some ⟨ib, 0, none⟩)) ∧ ((((w6.setCell ⟨W5.heap.size, 0, none⟩ a0).setCell ⟨W5.heap.size, 1, none⟩ a1).setCell ⟨W5.heap.size, 2, none⟩ a2).setCell ⟨W5.heap.size, 3, none⟩ a3).cell? ⟨wr.heap.size, 2, none⟩ = some (.int .i64 ei) := fun _ _ _ _ => ⟨by go_simp, by go_simp⟩
             have g06 := below_at hB6 gz0 (cell_lt gz0)
             have HB6 := Lib.hid (HBz.out.trans (hB6.mono HBz.out.size))
             clear hB6))
      all_goals
        have hBr6 := hBr5.trans (HB6.out.mono hBr5.size)
        have hlg6 := cell_lt g06
        have hz65 := HB6.out.size
        have hzw5 : wr.heap.size < W5.heap.size := cell_lt g0
        first
        | (obtain ⟨Wf, hWf⟩ : ∃ Wf, Wf = ((((w6.setCell ⟨W5.heap.size, 0, none⟩ (.int .i64 y0)).setCell ⟨W5.heap.size, 1, none⟩ (.int .i64 y1)).setCell ⟨W5.heap.size, 2, none⟩ (.int .i64 y2)).setCell ⟨W5.heap.size, 3, none⟩ (.int .i64 y4)) := ⟨_, rfl⟩
           rw [← hWf])
        | (obtain ⟨Wf, hWf⟩ : ∃ Wf, Wf = w6.alloc (.cells #[.int .i64 y0, .int .i64 y1, .int .i64 y2, .int .i64 y4] 197) := ⟨_, rfl⟩
           rw [← hWf])
        have gf : Wf.cell? ⟨wr.heap.size, 0, none⟩ = some (.int .i64 ed) := by rw [hWf]; go_simp
        have hBf : Below W5.heap.size W5 Wf := by rw [hWf]; exact belC HB6.out
        have hBr7 := hBr5.trans (hBf.mono hBr5.size)
        have hB57 := hB5.trans (hBf.mono hB5.size)
        have HT7 := Lib.hid (H.out.below' hBr7)
        have HB57 := Lib.hid hB57
        have HBr7 := Lib.hid hBr7
        clear hWf hBr6 hBr7 hBf hB57
        cases hb
        · go_wp2_with fail
          go_ret
          exact ck_no (HME.out fun h => absurd (HEC.out.1 h).1 (by decide)) HBr7.out
        · go_wp2_with fail
          refine (hkd3 _ HT7.out).mono ?_
          rintro e w8 ⟨rfl, hB8⟩
          have HB8 := Lib.hid hB8
          clear hB8
          by_cases hk1' : kd = 1
          · subst hk1'
            have HE2 := Lib.hid (HNX.out (HEC.out.2 (by simp)))
            go_wp2_with fail
            go_roundg (l.length - (i + 1))
            case measure => exact hms
            case rel => exact ⟨i + 1, rfl, hi1, by first | rfl | rw [hwr1.out], HE2.out, HB.out.trans ((HB57.out.trans (HB8.out.mono HB57.out.size)).mono HB.out.size)⟩
          · have hk2' : (kd != 1) = true := by simpa using hk1'
            have HNO := Lib.hid (HME.out fun h => hk1' (HEC.out.1 h).2)
            clear hk1'
            go_wp2_with fail
            go_ret
            exact ck_no HNO.out (HBr7.out.trans (HB8.out.mono HBr7.out.size))
    · obtain rfl : i = l.length := by omega
      have hBw := Lib.hid ((HB3.out.trans (HB.out.mono HB3.out.size)))
      have hk1 := look0 (HC.out.mod (F := none') (Mod.of_below hBw.out) id) keyInt Tryz.underlying195 zeroI 1
      obtain ⟨n1, hn1⟩ : ∃ n1, n1 = val0 C 1 := ⟨_, rfl⟩
      rw [← hn1] at hk1
      have HN1 : Hid (n1 = (namesN s.n.m 1 : Nat)) := Lib.hid (by rw [hn1, HCv.out 1])
      have HEA : Hid (∀ e ∈ s.n.m, EntC s e) := Lib.hid (fun e he => by
        obtain ⟨k, hk, hke⟩ := List.mem_iff_getElem.1 (HP.out.mem_iff.2 he)
        have := HEN.out k hk
        rwa [List.getD_eq_getElem?_getD, List.getElem?_eq_getElem hk, Option.getD_some, hke] at this)
      by_cases hno : 0 < n1
      · have HNO : Hid (¬ CkP s) := Lib.hid (fun g => by have := g.one; have := HN1.out; omega)
        clear hn1
        go_wp2_with fail
        go_ret
        exact ck_no HNO.out hBr
      have hno' : decide (0 < n1) = false := decide_eq_false hno
      have HN0 : Hid (namesN s.n.m 1 = 0) := Lib.hid (by have := HN1.out; omega)
      clear hno hn1
      have hia2 := hia wr hBr
      have HBr := Lib.hid hBr
      clear hia hBr
      go_wp2_with fail
      refine hia2.mono ?_
      clear hia2
      rintro e W9 ⟨a2, cz, rfl, hnm, hcpz, hB9⟩
      obtain ⟨q, hq⟩ : ∃ q, q = sortI (s.t.m.map (·.1)) := ⟨_, rfl⟩
      rw [← hq] at hnm ⊢
      have HQ := Lib.hid (show ∀ i, i ∈ q ↔ i ∈ s.t.m.map (·.1) by rw [hq]; intro i; exact (sortI_perm _).mem_iff)
      have hql : q.length ≤ 100000 := by rw [hq, (sortI_perm _).length_eq, List.length_map]; exact Hl2.out
      have HNm := Lib.hid hnm
      have HBr9 := Lib.hid (HBr.out.trans (hB9.mono HBr.out.size))
      have HBw9 := Lib.hid (hBw.out.trans (hB9.mono hBw.out.size))
      clear hnm hcpz hB9 hBw HBr HB hk1 HE e0 e1 hq
      go_wp2_with fail
      go_loopg [60] q.length (fun g s60 wr => Ck2 W9 s q g s60 wr)
      case atStart => exact ⟨0, rfl, Nat.zero_le _, rfl, fun k hk => absurd hk (Nat.not_lt_zero _), Below.refl _ _⟩
      case round =>
        obtain ⟨j, rfl, hjl, rfl, hin0, hB⟩ := hrel
        have HIN := Lib.hid hin0
        clear hin0
        have hBr := HBr9.out.trans (hB.mono HBr9.out.size)
        have hBw := HBw9.out.trans (hB.mono HBw9.out.size)
        have HB := Lib.hid hB
        have e0 := below_at hBr c0 hlb
        clear hB
        by_cases hjt : j < q.length
        · obtain ⟨bk, off, rfl, hSb, hbl, hc⟩ := HNm.out (by omega)
          have f0 := below_at HB.out (hc j hjt) hbl
          have hbl' : bk < wr.heap.size := cell_lt f0
          have hi1 : j + 1 ≤ q.length := hjt
          have hms : q.length - (j + 1) < q.length - j := by omega
          have hil2 : (0 : Int) ≤ j ∧ (j : Int) < q.length := by omega
          have hwr1 := Lib.hid (show wrap64 ((j : Int) + 1) = ((j + 1 : Nat) : Int) by unfold wrap64; omega)
          have hmem := (HQ.out _).1 (show q.getD j 0 ∈ q by rw [List.getD_eq_getElem?_getD, List.getElem?_eq_getElem hjt]; exact List.getElem_mem hjt)
          have HNX : Hid ((q.getD j 0 ≠ 1 → InoC s (q.getD j 0)) → ∀ k, k < j + 1 → q.getD k 0 ≠ 1 → InoC s (q.getD k 0)) := Lib.hid (fun h k hk => by
            by_cases e : k = j
            · rw [e]; exact h
            · exact HIN.out k (by omega))
          generalize q.getD j 0 = i at *
          have HME : Hid (i ≠ 1 → ¬ InoC s i → ¬ CkP s) := Lib.hid (fun h1 h g => h (g.ino _ hmem h1))
          have hst2 := hst wr hBr i
          have hop2 := fun W hB => hop W hB i
          obtain ⟨nc, hnc⟩ : ∃ nc, nc = val0 C i := ⟨_, rfl⟩
          obtain ⟨vm, hvm⟩ : ∃ vm, vm = val0 M i := ⟨_, rfl⟩
          have HIC : Hid (InoC s i ↔ (s.t.at i).links = nc ∧ (vm ≠ 0 ∨ ((s.t.at i).links = 0 ∧ 0 < (s.t.at i).opens)) ∧ ((s.t.at i).kind = 1 → nc = 1)) := Lib.hid (by
            have h1 := HMv.out i
            have h2 := HCv.out i
            rw [hnc, hvm, h2]
            unfold InoC
            rw [h1]
            constructor
            · rintro ⟨a, b, c⟩; exact ⟨a, b, fun e => by rw [c e]; rfl⟩
            · rintro ⟨a, b, c⟩; exact ⟨a, b, fun e => by have := c e; omega⟩)
          obtain ⟨⟨y0, y1, y2, y3, y4, yp⟩, hy⟩ : ∃ y, y = s.t.at i := ⟨_, rfl⟩
          rw [← hy] at hst2 HIC hop2
          simp only [statV] at hst2 HIC hop2
          generalize s.t.has i = yb at hst2
          clear hc hmem hy
          go_wp2_with fail
          refine hst2.mono ?_
          clear hst2
          rintro e W10 ⟨rfl, hB10⟩
          obtain ⟨W11, hW11⟩ : ∃ W11, W11 = W10.alloc (.cells #[.int .i64 y0, .int .i64 y1, .int .i64 y2, .int .i64 y4] 197) := ⟨_, rfl⟩
          have hz10 := hB10.size
          have hB11 : Below wr.heap.size wr W11 := by rw [hW11]; exact belC hB10
          have g1 : W11.cell? ⟨W10.heap.size, 1, none⟩ = some (.int .i64 y1) := by rw [hW11]; go_simp
          have g2 : W11.cell? ⟨W10.heap.size, 2, none⟩ = some (.int .i64 y2) := by rw [hW11]; go_simp
          have e1 := below_at hB11 e0 (cell_lt e0)
          have hBw11 := hBw.trans (hB11.mono hBw.size)
          have hBr11 := hBr.trans (hB11.mono hBr.size)
          have HB11 := Lib.hid (HB.out.trans (hB11.mono HB.out.size))
          have HW11 := Lib.hid hW11
          by_cases hz : y2 = 0
          · have hz2 : (y2 == 0) = true := by simpa using hz
            have hop3 := hop2 W11 hBr11
            have HZ := Lib.hid hz
            have HBw11 := Lib.hid hBw11
            have HBr11 := Lib.hid hBr11
            have e10 := below_at hB10 e0 (cell_lt e0)
            have e10l := cell_lt e10
            clear hB10 hW11 hB11 hBw11 hBr11 hz hop2
            go_wp2_with fail
            rw [← HW11.out]
            go_wp2_with fail
            refine hop3.mono ?_
            clear hop3
            rintro e W12 ⟨rfl, hB12⟩
            have g1 := below_at hB12 g1 (cell_lt g1)
            have g2 := below_at hB12 g2 (cell_lt g2)
            have HB12 := Lib.hid (HB11.out.trans (hB12.mono HB11.out.size))
            have HBw12 := Lib.hid (HBw11.out.trans (hB12.mono HBw11.out.size))
            have HBr12 := Lib.hid (HBr11.out.trans (hB12.mono HBr11.out.size))
            obtain ⟨hl0, hhl⟩ : ∃ hl0, hl0 = decide (0 < y3) := ⟨_, rfl⟩
            have HHL : Hid ((y2 = 0 ∧ 0 < y3) ↔ hl0 = true) := Lib.hid (by rw [hhl, decide_eq_true_eq]; exact ⟨fun h => h.2, fun h => ⟨HZ.out, h⟩⟩)
            have hkN := look0 (HC.out.mod (F := none') (Mod.of_below HBw12.out) id) keyInt Tryz.underlying195 zeroI i
            have hkM := look0 (HM.out.mod (F := none') (Mod.of_below HBw12.out) id) keyInt Tryz.underlying195 zeroI i
            rw [← hnc] at hkN
            rw [← hvm] at hkM
            have hhl' : decide (0 < y3) = hl0 := hhl.symm
            clear hB12 hhl hnc hvm
            by_cases h1 : i = 1
            · have HNX2 := Lib.hid (HNX.out (fun h => absurd h1 h))
              subst h1
              go_wp2_with fail
              go_roundg (q.length - (j + 1))
              case measure => exact hms
              case rel => exact ⟨j + 1, rfl, hi1, by first | rfl | rw [hwr1.out], HNX2.out, HB12.out⟩
            · have h12 : (i == 1) = false := by simpa using h1
              by_cases hq1 : y2 = nc
              · have hq1' : (y2 != nc) = false := by simpa using hq1
                by_cases hq2 : vm = 0 ∧ hl0 = false
                · obtain ⟨hq2, hq3⟩ := hq2
                  have HNO := Lib.hid (HME.out h1 (fun h => by
                    rcases (HIC.out.1 h).2.1 with h2 | h2
                    · exact h2 hq2
                    · exact absurd (HHL.out.1 h2) (by rw [hq3]; decide)))
                  have hq2' : (vm == 0) = true := by simpa using hq2
                  subst hq3
                  clear h1 hq1 hq2
                  go_wp2_with fail
                  go_ret
                  exact ck_no HNO.out HBr12.out
                · have hor : vm ≠ 0 ∨ hl0 = true := hq_or hq2
                  have HQ2 : Hid (vm ≠ 0 ∨ (y2 = 0 ∧ 0 < y3)) := Lib.hid (hor.imp id HHL.out.2)
                  clear hq2
                  by_cases hq4 : y1 = 1 ∧ nc ≠ 1
                  · obtain ⟨hq4, hq5⟩ := hq4
                    have HNO := Lib.hid (HME.out h1 (fun h => hq5 ((HIC.out.1 h).2.2 hq4)))
                    have hq4' : (y1 == 1) = true := by simpa using hq4
                    have hq5' : (nc != 1) = true := by simpa using hq5
                    clear h1 hq1 hq4 hq5
                    rcases hor with hv | hor
                    · have hv2 : (vm == 0) = false := by simpa using hv
                      clear hv
                      go_wp2_with fail
                      go_ret
                      exact ck_no HNO.out HBr12.out
                    · subst hor
                      cases hv2 : (vm == 0)
                      · skip
                        go_wp2_with fail
                        go_ret
                        exact ck_no HNO.out HBr12.out
                      · skip
                        go_wp2_with fail
                        go_ret
                        exact ck_no HNO.out HBr12.out
                  · have HNX2 := Lib.hid (HNX.out (fun _ => HIC.out.2 ⟨hq1, HQ2.out, fun e => by
                      by_cases e2 : nc = 1
                      · exact e2
                      · exact absurd ⟨e, e2⟩ hq4⟩))
                    have hor4 : y1 ≠ 1 ∨ nc = 1 := by
                      by_cases e : y1 = 1
                      · by_cases e2 : nc = 1
                        · exact Or.inr e2
                        · exact absurd ⟨e, e2⟩ hq4
                      · exact Or.inl e
                    clear h1 hq1 hq4
                    rcases hor with hv | hor
                    · have hv2 : (vm == 0) = false := by simpa using hv
                      clear hv
                      rcases hor4 with h5 | h5
                      · have h52 : (y1 == 1) = false := by simpa using h5
                        clear h5
                        go_wp2_with fail
                        go_roundg (q.length - (j + 1))
                        case measure => exact hms
                        case rel => exact ⟨j + 1, rfl, hi1, by first | rfl | rw [hwr1.out], HNX2.out, HB12.out⟩
                      · have h52 : (nc != 1) = false := by simpa using h5
                        clear h5
                        cases h53 : (y1 == 1)
                        · skip
                          go_wp2_with fail
                          go_roundg (q.length - (j + 1))
                          case measure => exact hms
                          case rel => exact ⟨j + 1, rfl, hi1, by first | rfl | rw [hwr1.out], HNX2.out, HB12.out⟩
                        · skip
                          go_wp2_with fail
                          go_roundg (q.length - (j + 1))
                          case measure => exact hms
                          case rel => exact ⟨j + 1, rfl, hi1, by first | rfl | rw [hwr1.out], HNX2.out, HB12.out⟩
                    · subst hor
                      cases hv2 : (vm == 0)
                      · skip
                        rcases hor4 with h5 | h5
                        · have h52 : (y1 == 1) = false := by simpa using h5
                          clear h5
                          go_wp2_with fail
                          go_roundg (q.length - (j + 1))
                          case measure => exact hms
                          case rel => exact ⟨j + 1, rfl, hi1, by first | rfl | rw [hwr1.out], HNX2.out, HB12.out⟩
                        · have h52 : (nc != 1) = false := by simpa using h5
                          clear h5
                          cases h53 : (y1 == 1)
                          · skip
                            go_wp2_with fail
                            go_roundg (q.length - (j + 1))
                            case measure => exact hms
                            case rel => exact ⟨j + 1, rfl, hi1, by first | rfl | rw [hwr1.out], HNX2.out, HB12.out⟩
                          · skip
                            go_wp2_with fail
                            go_roundg (q.length - (j + 1))
                            case measure => exact hms
                            case rel => exact ⟨j + 1, rfl, hi1, by first | rfl | rw [hwr1.out], HNX2.out, HB12.out⟩
                      · skip
                        rcases hor4 with h5 | h5
                        · have h52 : (y1 == 1) = false := by simpa using h5
                          clear h5
                          go_wp2_with fail
                          go_roundg (q.length - (j + 1))
                          case measure => exact hms
                          case rel => exact ⟨j + 1, rfl, hi1, by first | rfl | rw [hwr1.out], HNX2.out, HB12.out⟩
                        · have h52 : (nc != 1) = false := by simpa using h5
                          clear h5
                          cases h53 : (y1 == 1)
                          · skip
                            go_wp2_with fail
                            go_roundg (q.length - (j + 1))
                            case measure => exact hms
                            case rel => exact ⟨j + 1, rfl, hi1, by first | rfl | rw [hwr1.out], HNX2.out, HB12.out⟩
                          · skip
                            go_wp2_with fail
                            go_roundg (q.length - (j + 1))
                            case measure => exact hms
                            case rel => exact ⟨j + 1, rfl, hi1, by first | rfl | rw [hwr1.out], HNX2.out, HB12.out⟩
              · have hq1' : (y2 != nc) = true := by simpa using hq1
                have HNO := Lib.hid (HME.out h1 (fun h => hq1 (HIC.out.1 h).1))
                clear h1 hq1
                go_wp2_with fail
                go_ret
                exact ck_no HNO.out HBr12.out
          · have hz2 : (y2 == 0) = false := by simpa using hz
            obtain ⟨hl0, hhl⟩ : ∃ hl0, hl0 = false := ⟨_, rfl⟩
            have HHL : Hid ((y2 = 0 ∧ 0 < y3) ↔ hl0 = true) := Lib.hid (by rw [hhl]; exact ⟨fun h => absurd h.1 hz, fun h => absurd h (by decide)⟩)
            have hkN := look0 (HC.out.mod (F := none') (Mod.of_below hBw11) id) keyInt Tryz.underlying195 zeroI i
            have hkM := look0 (HM.out.mod (F := none') (Mod.of_below hBw11) id) keyInt Tryz.underlying195 zeroI i
            rw [← hnc] at hkN
            rw [← hvm] at hkM
            have HBr11 := Lib.hid hBr11
            subst hhl
            clear hB10 hW11 hB11 hBw11 hBr11 hnc hvm hz hop2
            rw [HW11.out] at hkM hkN
            by_cases h1 : i = 1
            · have HNX2 := Lib.hid (HNX.out (fun h => absurd h1 h))
              subst h1
              go_wp2_with fail
              rw [← HW11.out]
              go_wp2_with fail
              go_roundg (q.length - (j + 1))
              case measure => exact hms
              case rel => exact ⟨j + 1, rfl, hi1, by first | rfl | rw [hwr1.out], HNX2.out, HB11.out⟩
            · have h12 : (i == 1) = false := by simpa using h1
              by_cases hq1 : y2 = nc
              · have hq1' : (y2 != nc) = false := by simpa using hq1
                by_cases hq2 : vm = 0 ∧ false = false
                · obtain ⟨hq2, hq3⟩ := hq2
                  have HNO := Lib.hid (HME.out h1 (fun h => by
                    rcases (HIC.out.1 h).2.1 with h2 | h2
                    · exact h2 hq2
                    · exact absurd (HHL.out.1 h2) (by rw [hq3]; decide)))
                  have hq2' : (vm == 0) = true := by simpa using hq2
                  clear h1 hq1 hq2 hq3
                  go_wp2_with fail
                  rw [← HW11.out]
                  go_ret
                  exact ck_no HNO.out HBr11.out
                · have hor : vm ≠ 0 ∨ false = true := hq_or hq2
                  have HQ2 : Hid (vm ≠ 0 ∨ (y2 = 0 ∧ 0 < y3)) := Lib.hid (hor.imp id HHL.out.2)
                  clear hq2
                  by_cases hq4 : y1 = 1 ∧ nc ≠ 1
                  · obtain ⟨hq4, hq5⟩ := hq4
                    have HNO := Lib.hid (HME.out h1 (fun h => hq5 ((HIC.out.1 h).2.2 hq4)))
                    have hq4' : (y1 == 1) = true := by simpa using hq4
                    have hq5' : (nc != 1) = true := by simpa using hq5
                    clear h1 hq1 hq4 hq5
                    rcases hor with hv | hor
                    · have hv2 : (vm == 0) = false := by simpa using hv
                      clear hv
                      go_wp2_with fail
                      rw [← HW11.out]
                      go_ret
                      exact ck_no HNO.out HBr11.out
                    · exact absurd hor (by decide)
                  · have HNX2 := Lib.hid (HNX.out (fun _ => HIC.out.2 ⟨hq1, HQ2.out, fun e => by
                      by_cases e2 : nc = 1
                      · exact e2
                      · exact absurd ⟨e, e2⟩ hq4⟩))
                    have hor4 : y1 ≠ 1 ∨ nc = 1 := by
                      by_cases e : y1 = 1
                      · by_cases e2 : nc = 1
                        · exact Or.inr e2
                        · exact absurd ⟨e, e2⟩ hq4
                      · exact Or.inl e
                    clear h1 hq1 hq4
                    rcases hor with hv | hor
                    · have hv2 : (vm == 0) = false := by simpa using hv
                      clear hv
                      rcases hor4 with h5 | h5
                      · have h52 : (y1 == 1) = false := by simpa using h5
                        clear h5
                        go_wp2_with fail
                        rw [← HW11.out]
                        go_wp2_with fail
                        go_roundg (q.length - (j + 1))
                        case measure => exact hms
                        case rel => exact ⟨j + 1, rfl, hi1, by first | rfl | rw [hwr1.out], HNX2.out, HB11.out⟩
                      · have h52 : (nc != 1) = false := by simpa using h5
                        clear h5
                        cases h53 : (y1 == 1)
                        · skip
                          go_wp2_with fail
                          rw [← HW11.out]
                          go_wp2_with fail
                          go_roundg (q.length - (j + 1))
                          case measure => exact hms
                          case rel => exact ⟨j + 1, rfl, hi1, by first | rfl | rw [hwr1.out], HNX2.out, HB11.out⟩
                        · skip
                          go_wp2_with fail
                          rw [← HW11.out]
                          go_wp2_with fail
                          go_roundg (q.length - (j + 1))
                          case measure => exact hms
                          case rel => exact ⟨j + 1, rfl, hi1, by first | rfl | rw [hwr1.out], HNX2.out, HB11.out⟩
                    · exact absurd hor (by decide)
              · have hq1' : (y2 != nc) = true := by simpa using hq1
                have HNO := Lib.hid (HME.out h1 (fun h => hq1 (HIC.out.1 h).1))
                clear h1 hq1
                go_wp2_with fail
                rw [← HW11.out]
                go_ret
                exact ck_no HNO.out HBr11.out
        · obtain rfl : j = q.length := by omega
          have HAL : Hid (CkP s) := Lib.hid ⟨HEA.out, HN0.out, fun i hi h1 => by
            obtain ⟨k, hk, hke⟩ := List.mem_iff_getElem.1 ((HQ.out i).2 hi)
            have := HIN.out k hk
            rw [List.getD_eq_getElem?_getD, List.getElem?_eq_getElem hk, Option.getD_some, hke] at this
            exact this h1⟩
          go_wp2_with fail
          go_ret
          exact ⟨true, rfl, ⟨fun _ => HAL.out, fun _ => rfl⟩, hBr⟩
theorem check_true (w : World) (b : Nat) (S : Nat → Prop) (s : TrS) (h : TreeAt w b S s) (hg : GoodT s) (hl : s.n.m.length ≤ 100000) (hl2 : s.t.m.length ≤ 100000) :
    Calls Tryz.prog 97 #[.pointer (some ⟨b, 0, none⟩)] w fun e w' => e = .returned (.bool true) ∧ Below w.heap.size w w' :=
  (check_any w b S s h hl hl2).mono fun e w' ⟨v, he, hv, hB⟩ => by rw [hv.2 hg.ck] at he; exact ⟨he, hB⟩
end Go.Proofs.YtmnkackkeppheaaGreat
