/-
  The law TreeChecks: whatever is done, all hangs together: each inode is reached, links are as many as names, directories are named once.
  Conditions: none.
-/
import Derived.Test.YtakbalmbkokklaaGreatDo22
import Derived.Test.YtakbalmbkokklaaGreatStepLen
namespace Go.Proofs.YtakbalmbkokklaaGreat
open Go.RowKit Esch Go.ChangeShapes Go.WideShapes Go.ChangeAt

def Ck22 (w : World) (b : Nat) (S : Nat → Prop) (n g : Nat) (s4 : Value) (wr : World) : Prop :=
  ∃ (i : Nat) (s : TrS), g = n - i ∧ i ≤ n ∧ s4 = .int .i64 i ∧ TreeAt wr b S s ∧ GoodS s ∧ s.n.m.length ≤ i ∧ s.t.m.length ≤ 2 * i + 1 ∧ Below w.heap.size w wr
def Ck7 (w : World) (n g : Nat) (s7 : Value) (wr : World) : Prop := ∃ i : Nat, g = n - i ∧ i ≤ n ∧ s7 = .int .i64 i ∧ Below w.heap.size w wr
def Ck9 (w : World) (l : List Ent) (a : Int) (g : Nat) (s8 s9 : Value) (wr : World) : Prop := ∃ i : Nat, g = l.length - i ∧ i ≤ l.length ∧ s9 = .int .i64 i ∧ s8 = .int .i64 (namesN (l.take i) a : Nat) ∧ Below w.heap.size w wr
set_option maxRecDepth 100000 in
set_option maxHeartbeats 8000000 in
theorem treeChecks_walk (w : World) (oa : Option Addr) (cap : Nat) (ps : List St22) (h : Sts22 w oa ps) (hn : ps.length ≤ 9223372036854775807) :
    Calls Tryz.prog 5 #[.slice oa ps.length cap] w fun e w' => e = .returned (.bool true) ∧ Below w.heap.size w w' := by
  have HS := Lib.hid h
  clear h
  go_enter Tryz.func5, Tryz.ntmps5
  go_wp2_with fail
  refine (trNew_any _).mono ?_
  rintro e w1 ⟨b, rfl, hT, hB⟩
  obtain ⟨S, hSS⟩ : ∃ S : Nat → Prop, S = fun k => w.heap.size ≤ k ∧ k < w1.heap.size := ⟨_, rfl⟩
  rw [← hSS] at hT
  have HSS := Lib.hid (show ∀ k, S k → w.heap.size ≤ k by rw [hSS]; exact fun k hk => hk.1)
  have hfa := fair22_any w1 oa cap ps (HS.out.below hB) hn
  have HT := Lib.hid hT
  have HB := Lib.hid hB
  clear hT hB hSS
  go_wp2_with fail
  refine hfa.mono ?_
  clear hfa
  rintro e w2 ⟨v, rfl, hv, hB2⟩
  have HB2 := Lib.hid (HB.out.trans (hB2.mono HB.out.size))
  have HT2 := Lib.hid (HT.out.below' hB2)
  have HV := Lib.hid hv
  clear hB2 hv HT
  cases v
  · go_wp2_with fail
    refine (wakes22_any _).mono ?_
    rintro e wz ⟨rfl, hBz⟩
    go_wp2_with fail
    go_ret
    exact ⟨rfl, HB2.out.trans (hBz.mono HB2.out.size)⟩
  have h100 := HV.out rfl
  have H100 := Lib.hid h100
  clear h100 HV hn
  go_wp2_with fail
  go_loopg [4] ps.length (fun g s4 wr => Ck22 w b S ps.length g s4 wr)
  case atStart => exact ⟨0, tr0, rfl, Nat.zero_le _, rfl, HT2.out, tr0_good, by decide, by decide, HB2.out⟩
  case round =>
    obtain ⟨i, s, rfl, hi, rfl, hT, hG, hl1, hl2, hB⟩ := hrel
    have HT := Lib.hid hT
    have HG := Lib.hid hG
    have HB := Lib.hid hB
    have HL1 := Lib.hid hl1
    have HL2 := Lib.hid hl2
    clear hT hG hB hl1 hl2
    by_cases hlt : i < ps.length
    · obtain ⟨bk, off, rfl, hb, hc⟩ := HS.out (by omega)
      obtain ⟨c0, c1, c2, c3⟩ := hc i hlt
      have d0 := below_at HB.out c0 hb
      have d1 := below_at HB.out c1 hb
      have d2 := below_at HB.out c2 hb
      have d3 := below_at HB.out c3 hb
      have hdo := do22_any wr b S s HT.out HG.out.ok (ps.getD i default).k (ps.getD i default).z (ps.getD i default).p (ps.getD i default).q
      have hg2 := HG.out.step (ps.getD i default).k (ps.getD i default).z (ps.getD i default).p (ps.getD i default).q
      have hsl := step_len s (ps.getD i default).k (ps.getD i default).z (ps.getD i default).p (ps.getD i default).q
      unfold ErrPost at hdo
      generalize ps.getD i default = x at *
      obtain ⟨xk, xz, xp, xq⟩ := x
      simp only at d0 d1 d2 d3 hdo hg2 hsl
      generalize s.step xk xz xp xq = r at hdo hg2 hsl
      obtain ⟨re, rs⟩ := r
      simp only at hdo hg2 hsl
      have HG2 := Lib.hid hg2
      have HSL := Lib.hid hsl
      have hil : (0 : Int) ≤ i ∧ (i : Int) < ps.length := by omega
      have hms : ps.length - (i + 1) < ps.length - i := by omega
      have hwr1 := Lib.hid (show wrap64 ((i : Int) + 1) = ((i + 1 : Nat) : Int) by have := H100.out; unfold wrap64; omega)
      clear hc c0 c1 c2 c3 hg2 hsl
      go_wp2_with fail
      refine hdo.mono ?_
      clear hdo
      rintro e w3 ⟨rfl, hT3, hM3⟩
      have hck := check_true w3 b S rs hT3 HG2.out.good (by have := HSL.out.1; have := HL1.out; have := H100.out; omega) (by have := HSL.out.2; have := HL2.out; have := H100.out; omega)
      have HB3 := Lib.hid (HB.out.trans (hM3.below_at HB.out.size (fun k hk e => by have := HSS.out k e; omega)))
      have HT3 := Lib.hid hT3
      clear hT3 hM3 d0 d1 d2 d3
      go_wp2_with fail
      refine hck.mono ?_
      clear hck
      rintro e w4 ⟨rfl, hB4⟩
      have HT4 := Lib.hid (HT3.out.below' hB4)
      have HB4 := Lib.hid (HB3.out.trans (hB4.mono HB3.out.size))
      clear hB4
      go_wp2_with fail
      go_roundg (ps.length - (i + 1))
      case measure => exact hms
      case rel => exact ⟨i + 1, rs, rfl, hlt, by first | rfl | rw [hwr1.out], HT4.out, HG2.out, by have := HSL.out.1; have := HL1.out; omega, by have := HSL.out.2; have := HL2.out; omega, HB4.out⟩
    · obtain rfl : i = ps.length := by omega
      have hnm := fun W hW => trNames_any W b S s hW
      have hin := fun W hW => trInodes_any W b S s hW
      have hln : s.n.m.length ≤ 100000 := by have := HL1.out; have := H100.out; omega
      have hlt2 : s.t.m.length ≤ 100000 := by have := HL2.out; have := H100.out; omega
      clear hlt hi
      go_wp2_with fail
      refine (hnm _ HT.out).mono ?_
      clear hnm
      rintro e w5 ⟨⟨nb, S2, rfl, hD⟩, rfl⟩
      have hal := dirAll_any w5 nb S2 s.n hD hln
      clear hD hln
      go_wp2_with fail
      refine hal.mono ?_
      clear hal
      rintro e w6 ⟨ao, cp, l, rfl, hsl, he, hcp, hB6⟩
      have HSl := Lib.hid hsl
      have HE := Lib.hid he
      have HT6 := Lib.hid (HT.out.below' hB6)
      have HB6 := Lib.hid (HB.out.trans (hB6.mono HB.out.size))
      clear hsl he hcp hB6
      go_wp2_with fail
      refine (hin _ HT6.out).mono ?_
      rintro e w7 ⟨⟨ib, S1, rfl, hI⟩, rfl⟩
      have hia := inoAll_any w7 ib S1 s.t hI hlt2
      clear hI hlt2
      go_wp2_with fail
      refine hia.mono ?_
      clear hia
      rintro e w8 ⟨a2, cz, rfl, hq, hcz, hB8⟩
      obtain ⟨q, hqe⟩ : ∃ q, q = sortI (s.t.m.map (·.1)) := ⟨_, rfl⟩
      rw [← hqe] at hq ⊢
      have HQ := Lib.hid (show ∀ i ∈ q, i ∈ s.t.m.map (·.1) by rw [hqe]; intro i hi; exact (sortI_perm _).mem_iff.1 hi)
      have HNm := Lib.hid hq
      have hql : q.length ≤ 100000 := by rw [hqe, (sortI_perm _).length_eq, List.length_map]; have := HL2.out; have := H100.out; omega
      have HE8 := Lib.hid (HE.out.below hB8)
      have HT8 := Lib.hid (HT6.out.below' hB8)
      have HB8 := Lib.hid (HB6.out.trans (hB8.mono HB6.out.size))
      have hll : l.length ≤ 100000 := by
        have := HSl.out.1.length_eq
        have h2 := List.length_filter_le (fun _ => true) s.n.m
        have := HL1.out
        have := H100.out
        omega
      have hpl : l.Perm s.n.m := by have := HSl.out.1; rwa [List.filter_eq_self.2 (fun _ _ => rfl)] at this
      have HP := Lib.hid hpl
      clear hq hqe hcz hB8 hpl HE
      go_wp2_with fail
      go_loopg [7] q.length (fun g s7 wr => Ck7 w8 q.length g s7 wr)
      case atStart => exact ⟨0, rfl, Nat.zero_le _, rfl, Below.refl _ _⟩
      case round =>
        obtain ⟨j, rfl, hj, rfl, hB⟩ := hrel
        have HBj := Lib.hid hB
        clear hB
        by_cases hjt : j < q.length
        · obtain ⟨bk, off, rfl, -, hbl, hc⟩ := HNm.out (by omega)
          have f0 := hc j hjt
          have hmem := HQ.out _ (show q.getD j 0 ∈ q by rw [List.getD_eq_getElem?_getD, List.getElem?_eq_getElem hjt]; exact List.getElem_mem hjt)
          have hlast := HG.out.last hmem
          generalize q.getD j 0 = a at *
          have HF := Lib.hid f0
          have HLast := Lib.hid hlast
          have hjl : (0 : Int) ≤ j ∧ (j : Int) < q.length := by omega
          have hmsj : q.length - (j + 1) < q.length - j := by omega
          have hwj := Lib.hid (show wrap64 ((j : Int) + 1) = ((j + 1 : Nat) : Int) by unfold wrap64; omega)
          clear hc hmem hlast f0
          go_wp2_with fail
          go_loopg [8, 9] l.length (fun g s8 s9 wr2 => Ck9 wr l a g s8 s9 wr2)
          case atStart => exact ⟨0, rfl, Nat.zero_le _, rfl, rfl, Below.refl _ _⟩
          case round =>
            obtain ⟨k, rfl, hk, rfl, rfl, hB⟩ := hrel
            have HBk := Lib.hid hB
            clear hB
            have HBt := Lib.hid (HBj.out.trans (HBk.out.mono HBj.out.size))
            have g0 := below_at HBt.out HF.out hbl
            by_cases hkt : k < l.length
            · obtain ⟨eb, eo, rfl, -, hel, hcc⟩ := HE8.out (by omega)
              obtain ⟨-, -, a2⟩ := hcc k hkt
              have g2 := below_at HBt.out a2 hel
              have hnt := namesN_take hkt a default
              have hkl : (0 : Int) ≤ k ∧ (k : Int) < l.length := by omega
              have hmsk : l.length - (k + 1) < l.length - k := by omega
              have hnk : (namesN (l.take k) a : Nat) ≤ k := Nat.le_trans (namesN_le _ _) (by rw [List.length_take]; omega)
              have hwk := Lib.hid (show wrap64 ((k : Int) + 1) = ((k + 1 : Nat) : Int) by unfold wrap64; omega)
              have hwn := Lib.hid (show wrap64 (((namesN (l.take k) a : Nat) : Int) + 1) = ((namesN (l.take k) a + 1 : Nat) : Int) by unfold wrap64; omega)
              have HNT := Lib.hid hnt
              clear hnt hnk hcc a2
              generalize hxx : (l.getD k default).2 = x at *
              generalize hnn : namesN (l.take k) a = nn at *
              have HXX := Lib.hid hxx
              have HNN := Lib.hid hnn
              clear hxx hnn
              have hKd : wr.drew.cell? ⟨eb, eo + k * 3 + 2, none⟩ = some (.int .i64 x) ∧ wr.drew.cell? ⟨bk, off + j, none⟩ = some (.int .i64 a) := ⟨g2, g0⟩
              by_cases hxa : x = a
              · subst hxa
                go_wp2_with fail
                refine wp_region_held_drew (S := fun W' => W'.cell? ⟨eb, eo + k * 3 + 2, none⟩ = some (.int .i64 x) ∧ W'.cell? ⟨bk, off + j, none⟩ = some (.int .i64 x)) (by kernel_rfl) hKd (fun hHeld => ?_)
                refine takeL 0 ?_
                refine takeL 1 ?_
                refine takeL 2 ?_
                refine takeL 3 ?_
                refine takeL 4 ?_
                refine takeL 5 ?_
                refine takeL 6 ?_
                refine takeL 7 ?_
                refine takeL 8 ?_
                refine takeL 9 ?_
                refine wpAnyH_done (by kernel_rfl) ?_ _
                go_wp2_with fail
                go_roundg (l.length - (k + 1))
                case measure => exact hmsk
                case rel => exact ⟨k + 1, rfl, hkt, by first | rfl | rw [hwk.out], by rw [hwn.out, HNT.out, if_pos trivial], HBk.out.drew⟩
              · have hxa2 : (x == a) = false := by simpa using hxa
                have HXA := Lib.hid hxa
                clear hxa
                go_wp2_with fail
                refine wp_region_held_drew (S := fun W' => W'.cell? ⟨eb, eo + k * 3 + 2, none⟩ = some (.int .i64 x) ∧ W'.cell? ⟨bk, off + j, none⟩ = some (.int .i64 a)) (by kernel_rfl) hKd (fun hHeld => ?_)
                refine takeL 0 ?_
                refine takeL 1 ?_
                refine takeL 2 ?_
                refine takeL 3 ?_
                refine takeL 4 ?_
                refine takeL 5 ?_
                refine takeL 6 ?_
                refine takeL 7 ?_
                refine takeL 8 ?_
                refine takeL 9 ?_
                refine wpAnyH_done (by kernel_rfl) ?_ _
                go_wp2_with fail
                go_roundg (l.length - (k + 1))
                case measure => exact hmsk
                case rel => exact ⟨k + 1, rfl, hkt, by first | rfl | rw [hwk.out], by rw [HNT.out, if_neg HXA.out], HBk.out.drew⟩
            · obtain rfl : k = l.length := by omega
              have hNn := namesN_perm HP.out a
              rw [List.take_length, hNn]
              generalize hnn : namesN s.n.m a = nn at *
              have HNN := Lib.hid hnn
              have HTr := Lib.hid (HT8.out.below' HBt.out)
              have HBz := Lib.hid (HB8.out.trans (HBt.out.mono HB8.out.size))
              have HBs := Lib.hid HBt.out
              have hBd : Below wr.heap.size wr wr.drew := by exact belC (Below.refl _ _)
              obtain ⟨Wa, hWa⟩ : ∃ Wa, Wa = (wr.alloc (.cells #[.int .i64 0, .int .i64 0, .int .i64 0, .int .i64 0] 32)).drew := ⟨_, rfl⟩
              have hBa : Below wr.heap.size wr Wa := by rw [hWa]; exact belC (Below.refl _ _)
              have hbw : bk < wr.heap.size := cell_lt g0
              have hKd : wr.drew.cell? ⟨bk, off + j, none⟩ = some (.int .i64 a) := g0
              have hKa : Wa.cell? ⟨bk, off + j, none⟩ = some (.int .i64 a) := below_at hBa g0 hbw
              have z0 : Wa.cell? ⟨wr.heap.size, 0, none⟩ = some (.int .i64 0) := by rw [hWa]; go_simp
              have z1 : Wa.cell? ⟨wr.heap.size, 1, none⟩ = some (.int .i64 0) := by rw [hWa]; go_simp
              have z2 : Wa.cell? ⟨wr.heap.size, 2, none⟩ = some (.int .i64 0) := by rw [hWa]; go_simp
              have z3 : Wa.cell? ⟨wr.heap.size, 3, none⟩ = some (.int .i64 0) := by rw [hWa]; go_simp
              have v0 : Wa.frozen? ⟨wr.heap.size, 0, none⟩ = false := by rw [hWa]; go_simp
              have v1 : Wa.frozen? ⟨wr.heap.size, 1, none⟩ = false := by rw [hWa]; go_simp
              have v2 : Wa.frozen? ⟨wr.heap.size, 2, none⟩ = false := by rw [hWa]; go_simp
              have v3 : Wa.frozen? ⟨wr.heap.size, 3, none⟩ = false := by rw [hWa]; go_simp
              have hI1 := hin wr.drew (HTr.out.below' hBd)
              have hI2 := hin Wa (HTr.out.below' hBa)
              obtain ⟨⟨y0, y1, y2, y3, y4⟩, hy⟩ : ∃ y, y = s.t.at a := ⟨_, rfl⟩
              have hlast := HLast.out
              have hst : ∀ W ib S1, TabAt W ib S1 s.t → Calls Tryz.prog 28 #[.pointer (some ⟨ib, 0, none⟩), .int .i64 a] W fun e w' => e = .returned (.tuple #[.agg #[.int .i64 y0, .int .i64 y1, .int .i64 y2, .int .i64 y4], .bool true]) ∧ Below W.heap.size W w' := fun W ib S1 hI => by
                have := inoStat_any W ib S1 s.t hI a
                rw [← hy, hlast.1] at this
                exact this
              rw [← hy] at hlast
              simp only at hlast
              have HLa := Lib.hid hlast.2
              have HBd := Lib.hid hBd
              have HBa := Lib.hid hBa
              have HWa := Lib.hid hWa
              rw [hWa] at hI2 hKa
              clear hlast hy hnn hNn hBd hBa hkt hk
              go_wp2_with fail
              go_region_held3 (fun W' => W'.cell? ⟨bk, off + j, none⟩ = some (.int .i64 a))
                (first
                  | with_reducible exact hKd
                  | with_reducible exact hKa
                  | with_reducible exact hK9
                  | with_reducible exact hK9a
                  | with_reducible exact hK9b _
                  | with_reducible exact hKn _ _ _ _)
                (first
                  | (go_at_call 16; (with_reducible refine hI1.mono ?_); rintro e w9 ⟨⟨ib, S1, rfl, hI⟩, rfl⟩
                     have hs1 := hst _ ib S1 hI
                     have hIa : TabAt (wr.alloc (.cells #[.int .i64 0, .int .i64 0, .int .i64 0, .int .i64 0] 32)).drew ib S1 s.t := hI.below' (show Below wr.drew.heap.size wr.drew (wr.drew.alloc (.cells #[.int .i64 0, .int .i64 0, .int .i64 0, .int .i64 0] 32)) by exact belC (Below.refl _ _))
                     have hs2 := hst _ ib S1 hIa
                     clear hIa
                     have HI := Lib.hid hI
                     clear hI)
                  | (go_at_call 16; (with_reducible refine hI2.mono ?_); rintro e w9 ⟨⟨ib, S1, rfl, hI⟩, rfl⟩
                     have hs1 := hst _ ib S1 hI
                     have HI := Lib.hid hI
                     clear hI)
                  | (go_at_call 28; (with_reducible refine hs1.mono ?_); rintro e w10 ⟨rfl, hB10⟩
                     first
                     | (have hB9 : Below wr.heap.size wr w10 := HBd.out.trans (hB10.mono HBd.out.size)
                        have hK9 : w10.cell? ⟨bk, off + j, none⟩ = some (.int .i64 a) := below_at hB9 g0 hbw
                        have hK9b : ∀ o, (w10.alloc o).cell? ⟨bk, off + j, none⟩ = some (.int .i64 a) := fun o => (cell_alloc_lt _ _ _ _ (cell_lt hK9)).trans hK9
                        have HB9 := Lib.hid hB9
                        clear hB10 hB9)
                     | (rw [← HWa.out] at hB10
                        have hK9a : w10.cell? ⟨bk, off + j, none⟩ = some (.int .i64 a) := below_at hB10 (below_at HBa.out g0 hbw) (cell_lt (below_at HBa.out g0 hbw))
                        have n0 := below_at hB10 z0 (cell_lt z0)
                        have n1 := below_at hB10 z1 (cell_lt z0)
                        have n2 := below_at hB10 z2 (cell_lt z0)
                        have n3 := below_at hB10 z3 (cell_lt z0)
                        have u0 := (hB10.frozen (p := ⟨wr.heap.size, 0, none⟩) (cell_lt z0)).trans v0
                        have u1 := (hB10.frozen (p := ⟨wr.heap.size, 1, none⟩) (cell_lt z0)).trans v1
                        have u2 := (hB10.frozen (p := ⟨wr.heap.size, 2, none⟩) (cell_lt z0)).trans v2
                        have u3 := (hB10.frozen (p := ⟨wr.heap.size, 3, none⟩) (cell_lt z0)).trans v3
                        have hln := cell_lt n0
                        have hKn : ∀ a0 a1 a2 a3, ((((w10.setCell ⟨wr.heap.size, 0, none⟩ a0).setCell ⟨wr.heap.size, 1, none⟩ a1).setCell ⟨wr.heap.size, 2, none⟩ a2).setCell ⟨wr.heap.size, 3, none⟩ a3).cell? ⟨bk, off + j, none⟩ = some (.int .i64 a) := fun _ _ _ _ => by go_simp
                        have HB9 := Lib.hid (HBa.out.trans (hB10.mono HBa.out.size))
                        clear hB10)
                     )
                  | (go_at_call 28; (with_reducible refine hs2.mono ?_); rintro e w10 ⟨rfl, hB10⟩
                     first
                     | (have hB9 : Below wr.heap.size wr w10 := HBd.out.trans (hB10.mono HBd.out.size)
                        have hK9 : w10.cell? ⟨bk, off + j, none⟩ = some (.int .i64 a) := below_at hB9 g0 hbw
                        have hK9b : ∀ o, (w10.alloc o).cell? ⟨bk, off + j, none⟩ = some (.int .i64 a) := fun o => (cell_alloc_lt _ _ _ _ (cell_lt hK9)).trans hK9
                        have HB9 := Lib.hid hB9
                        clear hB10 hB9)
                     | (rw [← HWa.out] at hB10
                        have hK9a : w10.cell? ⟨bk, off + j, none⟩ = some (.int .i64 a) := below_at hB10 (below_at HBa.out g0 hbw) (cell_lt (below_at HBa.out g0 hbw))
                        have n0 := below_at hB10 z0 (cell_lt z0)
                        have n1 := below_at hB10 z1 (cell_lt z0)
                        have n2 := below_at hB10 z2 (cell_lt z0)
                        have n3 := below_at hB10 z3 (cell_lt z0)
                        have u0 := (hB10.frozen (p := ⟨wr.heap.size, 0, none⟩) (cell_lt z0)).trans v0
                        have u1 := (hB10.frozen (p := ⟨wr.heap.size, 1, none⟩) (cell_lt z0)).trans v1
                        have u2 := (hB10.frozen (p := ⟨wr.heap.size, 2, none⟩) (cell_lt z0)).trans v2
                        have u3 := (hB10.frozen (p := ⟨wr.heap.size, 3, none⟩) (cell_lt z0)).trans v3
                        have hln := cell_lt n0
                        have hKn : ∀ a0 a1 a2 a3, ((((w10.setCell ⟨wr.heap.size, 0, none⟩ a0).setCell ⟨wr.heap.size, 1, none⟩ a1).setCell ⟨wr.heap.size, 2, none⟩ a2).setCell ⟨wr.heap.size, 3, none⟩ a3).cell? ⟨bk, off + j, none⟩ = some (.int .i64 a) := fun _ _ _ _ => by go_simp
                        have HB9 := Lib.hid (HBa.out.trans (hB10.mono HBa.out.size))
                        clear hB10)
                     ))
              all_goals
                have hz9 := HB9.out.size
                have hg9 := below_at HB9.out g0 hbw
                first
                | (obtain ⟨Wf, hWf⟩ : ∃ Wf, Wf = ((((w10.setCell ⟨wr.heap.size, 0, none⟩ (.int .i64 y0)).setCell ⟨wr.heap.size, 1, none⟩ (.int .i64 y1)).setCell ⟨wr.heap.size, 2, none⟩ (.int .i64 y2)).setCell ⟨wr.heap.size, 3, none⟩ (.int .i64 y4)) := ⟨_, rfl⟩
                   rw [← hWf]
                   have k1 : Wf.cell? ⟨wr.heap.size, 1, none⟩ = some (.int .i64 y1) := by rw [hWf]; go_simp
                   have k2 : Wf.cell? ⟨wr.heap.size, 2, none⟩ = some (.int .i64 y2) := by rw [hWf]; go_simp)
                | (obtain ⟨Wf, hWf⟩ : ∃ Wf, Wf = w10.alloc (.cells #[.int .i64 y0, .int .i64 y1, .int .i64 y2, .int .i64 y4] 32) := ⟨_, rfl⟩
                   rw [← hWf]
                   have k1 : Wf.cell? ⟨w10.heap.size, 1, none⟩ = some (.int .i64 y1) := by rw [hWf]; go_simp
                   have k2 : Wf.cell? ⟨w10.heap.size, 2, none⟩ = some (.int .i64 y2) := by rw [hWf]; go_simp)
                have hBf : Below wr.heap.size wr Wf := by rw [hWf]; exact belC HB9.out
                have kg : Wf.cell? ⟨bk, off + j, none⟩ = some (.int .i64 a) := below_at hBf g0 hbw
                have hbwf := cell_lt kg
                have HBf := Lib.hid (HBs.out.trans (hBf.mono HBs.out.size))
                have HLb := HLa.out
                clear hBf hWf hg9 hz9 g0 hI1 hI2 hst hKd hKa
                by_cases h1 : a = 1
                · subst h1
                  clear HLb
                  by_cases h5 : y1 = 1
                  · subst h5
                    go_wp2_with fail
                    go_roundg (q.length - (j + 1))
                    case measure => exact hmsj
                    case rel => exact ⟨j + 1, rfl, hjt, by first | rfl | rw [hwj.out], HBf.out⟩
                  · have h52 : (y1 == 1) = false := by simpa using h5
                    clear h5
                    go_wp2_with fail
                    go_roundg (q.length - (j + 1))
                    case measure => exact hmsj
                    case rel => exact ⟨j + 1, rfl, hjt, by first | rfl | rw [hwj.out], HBf.out⟩
                · have h12 : (a != 1) = true := by simpa using h1
                  obtain ⟨q1, q2⟩ := HLb h1
                  subst q1
                  clear h1 HLb
                  by_cases h5 : y1 = 1
                  · have q3 := q2 h5
                    have q4 : ((nn : Int) != 1) = false := by simpa using q3
                    subst h5
                    clear q2 q3
                    go_wp2_with fail
                    go_roundg (q.length - (j + 1))
                    case measure => exact hmsj
                    case rel => exact ⟨j + 1, rfl, hjt, by first | rfl | rw [hwj.out], HBf.out⟩
                  · have h52 : (y1 == 1) = false := by simpa using h5
                    clear h5 q2
                    go_wp2_with fail
                    go_roundg (q.length - (j + 1))
                    case measure => exact hmsj
                    case rel => exact ⟨j + 1, rfl, hjt, by first | rfl | rw [hwj.out], HBf.out⟩
        · obtain rfl : j = q.length := by omega
          clear hjt hj
          have HB9 := Lib.hid (HB8.out.trans (HBj.out.mono HB8.out.size))
          go_wp2_with fail
          refine (wakes22_any _).mono ?_
          rintro e wz ⟨rfl, hBz⟩
          go_wp2_with fail
          go_ret
          exact ⟨rfl, HB9.out.trans (hBz.mono HB9.out.size)⟩

set_option maxRecDepth 100000 in
set_option maxHeartbeats 2000000 in
theorem treeChecks_lifted (os : Os) (started : os.Started) (H : Type) (enc : TypeId × Value → H) :
    ReturnsInHanded {} Tryz.checked os 5 .any (Rows.treeChecksSpec.pre6 enc Tryz.prog Tryz.f5 Rows.treeChecksRow.domain false) (Rows.treeChecksSpec.post enc Tryz.prog Tryz.f5 false true false false) := by
  refine returnsInHanded_of_change (C := Tryz.checked) Tryz.ownP started (by kernel_rfl) Tryz.func5
    (ChangeSpec.witness6 (enc := enc) (C := Tryz.checked) false ⟨#[], #[.slice none 0 0], []⟩ 8 (by kernel_rfl) (by kernel_rfl) (by kernel_rfl) (by kernel_rfl)) ?_
  intro W base args ds gs before hval0 hW hcnd _
  have hval : ∀ (j : Nat) t v, Tryz.f5.params[j]? = some t → args[j]? = some v → Value.okWide Tryz.prog W .any base t v := hval0
  have hW' := hW
  obtain ⟨p, q, hA0, hV, rfl, hfz, hnd⟩ := hW
  have hA : DataW.TrodAll enc Tryz.prog W 0 (fun _ => true) true Tryz.f5.params.toList args.toList ds p := hA0
  rw [Tryz.params5] at hA hval
  obtain ⟨v0, vs0, d0, ds0, p0, q0, hargs, rfl, rfl, h0, r0⟩ := trodAll_cons hA
  obtain ⟨rfl, rfl, rfl⟩ := trodAll_nil r0
  obtain rfl : args = #[v0] := by cases args; simp_all
  obtain ⟨rfl, rfl⟩ := trodVars_none hV
  obtain ⟨cs0, x0, hv0, hr0⟩ := open_arg (n := 9) (T := (.slice ty22)) (by kernel_rfl) (hval 0 44 v0 rfl rfl) h0
  obtain ⟨oa, cap, ps, e0, hn, hS⟩ := rd_sts22 hr0
  simp only [Ty.isStruct, Bool.false_eq_true, if_false] at hv0
  rw [e0] at hv0
  subst hv0
  clear hA0 hval0
  refine (treeChecks_walk W oa cap ps hS hn).mono fun e W' ⟨he, hb⟩ => ?_
  subst he
  exact ⟨_, rfl, law_post Tryz.laidOutP (by kernel_rfl) rfl Tryz.underlying4 hW' rfl rfl rfl rfl hb⟩

theorem treeChecks_holds : Rows.TreeChecksSaid :=
  OpenClaim.holds_of_wide 5 Tryz.f5 rfl rfl rfl rfl rfl rfl rfl ⟨rfl, rfl, rfl, rfl, rfl⟩ rfl rfl rfl rfl rfl (by kernel_rfl) Tryz.func5 (by kernel_rfl)
    (of_decide_eq_true (by kernel_rfl)) (by unfold Func.isWrapper; first | (rw [if_pos (by decide +kernel)]; kernel_rfl) | (rw [if_neg (by decide +kernel)]; exact ⟨rfl, rfl⟩))
    (fun os started H enc _ => treeChecks_lifted os started H enc)
end Go.Proofs.YtakbalmbkokklaaGreat
