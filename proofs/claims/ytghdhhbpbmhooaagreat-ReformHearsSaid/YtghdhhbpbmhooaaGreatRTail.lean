/- the least address above all: the document's -/
import Derived.Test.YtghdhhbpbmhooaaGreatPkSp
import Derived.Test.YtghdhhbpbmhooaaGreatPkKeep
import Derived.Test.YtghdhhbpbmhooaaGreatRefGood
namespace Go.Proofs.YtghdhhbpbmhooaaGreat
open Go.RowKit Esch

def cntC (p : Int × Int) : List Value := [.int .i64 p.1, .int .i64 p.2]
def cntCells (m : List (Int × Int)) : List Value := m.flatMap cntC
theorem cntCells_append (a b : List (Int × Int)) : cntCells (a ++ b) = cntCells a ++ cntCells b := List.flatMap_append
theorem cntCells_one (m : List (Int × Int)) : ∀ u ∈ cntCells m, u.oneCell' = true := by
  intro u hu
  obtain ⟨p, -, hp⟩ := List.mem_flatMap.1 hu
  simp only [cntC, List.mem_cons, List.not_mem_nil, or_false] at hp
  rcases hp with rfl | rfl <;> rfl
theorem cntCells_at : ∀ {m : List (Int × Int)} {i : Nat} {p : Int × Int}, m[i]? = some p → ∀ j, j < 2 → (cntCells m)[i * 2 + j]? = (cntC p)[j]?
  | [], _, _, h, _, _ => by simp at h
  | q :: m, 0, p, h, j, hj => by
    have : q = p := by simpa using h
    subst this
    show (cntC q ++ cntCells m)[0 * 2 + j]? = _
    rw [List.getElem?_append_left (by show _ < 2; omega), Nat.zero_mul, Nat.zero_add]
  | q :: m, i + 1, p, h, j, hj => by
    show (cntC q ++ cntCells m)[(i + 1) * 2 + j]? = _
    rw [List.getElem?_append_right (by show 2 ≤ _; omega)]
    have := cntCells_at (m := m) (i := i) (p := p) (by simpa using h) j hj
    rw [← this]
    congr 1
    show (i + 1) * 2 + j - 2 = _
    omega
theorem cntAt {w : World} {S : Nat → Prop} {m : List (Int × Int)} {ao : Option Addr} {cap : Nat} (h : GRowAt w S 2 m.length cap ao (cntCells m)) (h0 : 0 < m.length) : ∃ b off, ao = some ⟨b, off, none⟩ ∧ b < w.heap.size ∧ ∀ i p, m[i]? = some p →
    w.cell? ⟨b, off + i * 2, none⟩ = some (.int .i64 p.1) ∧ w.cell? ⟨b, off + i * 2 + 1, none⟩ = some (.int .i64 p.2) := by
  obtain ⟨b, off, e, -, hb, hc, -⟩ := h.at' (Nat.lt_of_lt_of_le h0 h.le)
  refine ⟨b, off, e, hb, fun i p hp => ?_⟩
  have hi := (List.getElem?_eq_some_iff.1 hp).1
  have k0 := (hc (i * 2 + 0) (by omega)).trans (cntCells_at hp 0 (by decide))
  have k1 := (hc (i * 2 + 1) (by omega)).trans (cntCells_at hp 1 (by decide))
  exact ⟨by simpa [cntC] using k0, by rw [Nat.add_assoc]; simpa [cntC] using k1⟩
/-- what is told of so many pages -/
def tl4 (n i : Nat) (a : Int) (pg : Nat) : Int := max a (spotV n (i, pg))
theorem tl4_zero (n i : Nat) {a : Int} (h : 0 ≤ a) : tl4 n i a 0 = a := by unfold tl4 spotV; simp only [Int.natCast_zero, Int.lt_irrefl, if_false]; omega
theorem tl4_step (n i : Nat) (a : Int) (pg : Nat) : tl4 n i a (pg + 1) = if tl4 n i a pg < (pg : Int) * n + i + 1 then (pg : Int) * n + i + 1 else tl4 n i a pg := by
  unfold tl4 spotV
  simp only
  rw [if_pos (by omega : (0 : Int) < ((pg + 1 : Nat) : Int)), show ((pg + 1 : Nat) : Int) - 1 = pg by omega]
  by_cases h : (0 : Int) < (pg : Int)
  · rw [if_pos h]
    have h1 : ((pg : Int) - 1) * n = (pg : Int) * n - n := by rw [Int.sub_mul, Int.one_mul]
    rw [h1]
    by_cases e : max a ((pg : Int) * n - n + i + 1) < (pg : Int) * n + i + 1
    · rw [if_pos e]; omega
    · rw [if_neg e]; omega
  · rw [if_neg h]
    have : (pg : Int) = 0 := by omega
    rw [this, Int.zero_mul]
    by_cases e : max a 0 < 0 + (i : Int) + 1
    · rw [if_pos e]; omega
    · rw [if_neg e]; omega
def cntMax (n i : Nat) (u a : Int) (l : List (Int × Int)) : Int := l.foldl (fun a x => if x.1 = u then max a (spotV n (i, clampP x.2)) else a) a
theorem cntMax_ge (n i : Nat) (u : Int) : ∀ (l : List (Int × Int)) (a : Int), a ≤ cntMax n i u a l
  | [], _ => Int.le_refl _
  | x :: l, a => by
    show a ≤ cntMax n i u (if x.1 = u then max a (spotV n (i, clampP x.2)) else a) l
    have := cntMax_ge n i u l (if x.1 = u then max a (spotV n (i, clampP x.2)) else a)
    by_cases e : x.1 = u
    · rw [if_pos e] at this ⊢; omega
    · rw [if_neg e] at this ⊢; exact this
theorem cntMax_none (n i : Nat) (u : Int) : ∀ (l : List (Int × Int)) (a : Int), u ∉ l.map Prod.fst → cntMax n i u a l = a
  | [], _, _ => rfl
  | x :: l, a, h => by
    simp only [List.map_cons, List.mem_cons, not_or] at h
    show cntMax n i u (if x.1 = u then max a (spotV n (i, clampP x.2)) else a) l = a
    rw [if_neg (fun e => h.1 e.symm)]
    exact cntMax_none n i u l a h.2
theorem cntMax_get (n i : Nat) (u : Int) : ∀ (l : List (Int × Int)) (a : Int), (l.map Prod.fst).Nodup → cntMax n i u a l = match get l u with | none => a | some v => max a (spotV n (i, clampP v))
  | [], _, _ => rfl
  | (k, v) :: l, a, h => by
    rw [List.map_cons, List.nodup_cons] at h
    show cntMax n i u (if k = u then max a (spotV n (i, clampP v)) else a) l = _
    by_cases e : k = u
    · subst e
      rw [if_pos rfl, cntMax_none n i k l _ h.1]
      simp [Esch.get]
    · rw [if_neg e, cntMax_get n i u l a h.2]
      simp only [Esch.get, if_neg e]
theorem cntMax_snoc (n i : Nat) (u a : Int) {l : List (Int × Int)} {j : Nat} {x : Int × Int} (hx : l[j]? = some x) : cntMax n i u a (l.take (j + 1)) = if x.1 = u then max (cntMax n i u a (l.take j)) (spotV n (i, clampP x.2)) else cntMax n i u a (l.take j) := by
  unfold cntMax
  rw [List.take_add_one, hx, Option.toList_some, List.foldl_append]
  rfl
def chMax (t : List (Int × Int)) (n i : Nat) (a : Int) (c : List Int) : Int := c.foldl (fun a u => cntMax n i u a t) a
theorem chMax_ge (t : List (Int × Int)) (n i : Nat) : ∀ (c : List Int) (a : Int), a ≤ chMax t n i a c
  | [], _ => Int.le_refl _
  | u :: c, a => Int.le_trans (cntMax_ge n i u t a) (chMax_ge t n i c _)
theorem chMax_snoc (t : List (Int × Int)) (n i : Nat) (a : Int) {c : List Int} {k : Nat} (hk : k < c.length) : chMax t n i a (c.take (k + 1)) = cntMax n i (c.getD k 0) (chMax t n i a (c.take k)) t := by
  unfold chMax
  rw [List.take_add_one, List.getElem?_eq_getElem hk, Option.toList_some, List.foldl_append, List.getD_eq_getElem?_getD, List.getElem?_eq_getElem hk]
  rfl
theorem chMax_spot (t : List (Int × Int)) (hn : (t.map Prod.fst).Nodup) (n i : Nat) : ∀ (c : List Int) (a : Int), chMax t n i a c = (spotC t i c).foldl (fun a x => max a (spotV n x)) a
  | [], _ => rfl
  | u :: c, a => by
    show chMax t n i (cntMax n i u a t) c = _
    rw [chMax_spot t hn n i c, cntMax_get n i u t a hn]
    unfold spotC
    cases h : get t u with
    | none => simp [h]
    | some v => simp [h]
theorem maxV_snoc (t : List (Int × Int)) (hn : (t.map Prod.fst).Nodup) (n : Nat) (ls : List (List Int)) (k : Nat) : maxV n (spotsP t ls (k + 1)) = chMax t n k (maxV n (spotsP t ls k)) (ls.getD k []) := by
  rw [chMax_spot t hn]
  show maxV n (spotsP t ls k ++ spotC t k (ls.getD k [])) = _
  unfold maxV
  rw [List.foldl_append]
theorem maxV_ge (n : Nat) (l : List (Int × Int)) : 0 ≤ maxV n l := (foldMax_ge l 0).1

def Rt4Rel (wo : World) (n i : Nat) (a : Int) (pages g : Nat) (s6 s11 : Value) (wr : World) : Prop :=
  ∃ pg : Nat, g = pages - pg ∧ pg ≤ pages ∧ s11 = .int .i64 pg ∧ s6 = .int .i64 (tl4 n i a pg) ∧ wr = wo
def Rt3Rel (w0 : World) (t : List (Int × Int)) (n i : Nat) (u a : Int) (g : Nat) (s6 s9 : Value) (wr : World) : Prop :=
  ∃ j : Nat, g = t.length - j ∧ j ≤ t.length ∧ s9 = .int .i64 j ∧ s6 = .int .i64 (cntMax n i u a (t.take j)) ∧ Below w0.heap.size w0 wr
def Rt2Rel (w0 : World) (t : List (Int × Int)) (n i : Nat) (c : List Int) (a : Int) (g : Nat) (s6 s8 : Value) (wr : World) : Prop :=
  ∃ k : Nat, g = c.length - k ∧ k ≤ c.length ∧ s8 = .int .i64 k ∧ s6 = .int .i64 (chMax t n i a (c.take k)) ∧ Below w0.heap.size w0 wr
def Rt1Rel (w0 : World) (t : List (Int × Int)) (ls : List (List Int)) (g : Nat) (s6 s7 : Value) (wr : World) : Prop :=
  ∃ i : Nat, g = ls.length - i ∧ i ≤ ls.length ∧ s7 = .int .i64 i ∧ s6 = .int .i64 (maxV ls.length (spotsP t ls i)) ∧ Below w0.heap.size w0 wr
set_option maxRecDepth 100000 in
set_option maxHeartbeats 4000000 in
theorem rtail_any (S T : Nat → Prop) (w : World) (e : Int) (a : Option Addr) (c : Nat) (ls : List (List Int)) (hs : Small ls) (h : ListsAt S w a ls) (t : List (Int × Int)) (ca : Option Addr) (cc : Nat) (ht : GRowAt w T 2 t.length cc ca (cntCells t)) (hn : (t.map Prod.fst).Nodup) (htl : t.length ≤ 100) :
    Calls Tryz.prog 50 #[.agg #[.int .i64 e, .slice a ls.length c], .slice ca t.length cc] w fun r w' => r = .returned (.int .i64 (tailP ⟨e, ls⟩ t)) ∧ Below w.heap.size w w' := by
  obtain ⟨W0, hW0, hB0, hz0, p0, p1⟩ := oneBox w 24 (.int .i64 e) (.slice a ls.length c)
  have hl0 := h.mod (F := none') (Mod.of_below hB0) (fun _ _ _ => id)
  have hgd := rgood_any S W0 e a c ls hl0
  have HW0 := Lib.hid hW0
  have Hs := Lib.hid hs
  have HL := Lib.hid hl0.2
  have HT := Lib.hid (ht.mod (F := none') (Mod.of_below hB0) (fun _ _ _ => id))
  have Hn := Lib.hid hn
  have HB0 := Lib.hid hB0
  obtain ⟨g, hg⟩ : ∃ g, g = goodB ⟨e, ls⟩ := ⟨_, rfl⟩
  rw [← hg] at hgd
  have Hg := Lib.hid hg
  clear hW0 h hl0 hs ht hn hg hB0
  go_enter Tryz.func50, Tryz.ntmps50
  go_wp2_with fail
  rw [← HW0.out]
  refine hgd.mono ?_
  clear hgd
  rintro r w1 ⟨rfl, hB1⟩
  have hbl : w.heap.size < W0.heap.size := by omega
  have y0 := below_at hB1 p0 hbl
  have y1 := below_at hB1 p1 hbl
  have HB1 := Lib.hid hB1
  clear hB1
  cases g
  · go_wp2_with fail
    go_ret
    refine ⟨?_, HB0.out.trans (HB1.out.mono HB0.out.size)⟩
    show Ending.returned (.int .i64 0) = _
    unfold tailP
    rw [if_neg (by rw [← Hg.out]; simp)]
  · have hgg : (Proj.mk e ls).good := of_decide_eq_true Hg.out.symm
    obtain ⟨-, -, g3, g4, g5, -⟩ := hgg
    have g3' : (1 : Int) ≤ ls.length := by simp only at g3; omega
    have g4' : (ls.length : Int) ≤ 4 := by simp only at g4; omega
    have g4n : ls.length ≤ 4 := by omega
    clear g3 g4 g5
    go_wp2_with fail
    go_loopg [6, 7] ls.length (fun g s6 s7 wr => Rt1Rel W0 t ls g s6 s7 wr)
    case atStart => exact ⟨0, rfl, Nat.zero_le _, rfl, rfl, HB1.out⟩
    case round =>
      clear y0 y1
      obtain ⟨i, rfl, hi, rfl, rfl, hBr⟩ := hrel
      by_cases hil : i < ls.length
      · have i0 : (0 : Int) ≤ i := by omega
        have i1 : (i : Int) < ls.length := by omega
        obtain ⟨b, off, rfl, -, hb, hc⟩ := HL.out (by omega)
        obtain ⟨ia, ic, hc1, hi1, -⟩ := hc i hil
        clear hc
        have hl50 := Hs.out.2 i hil
        have HS := Lib.hid (maxV_snoc t Hn.out ls.length ls i)
        have hge := maxV_ge ls.length (spotsP t ls i)
        obtain ⟨hi0, hi3⟩ := hi1
        have HI := Lib.hid hi3
        clear hi3
        generalize ls.getD i [] = l at *
        generalize maxV ls.length (spotsP t ls i) = A at *
        go_wp2_with fail
        obtain ⟨wo, hwo⟩ : ∃ wo : World, wo = wr := ⟨_, rfl⟩
        go_loopg [6, 8] l.length (fun g s6 s8 wr => Rt2Rel W0 t ls.length i l A g s6 s8 wr)
        case atStart => exact ⟨0, rfl, Nat.zero_le _, rfl, rfl, hBr⟩
        case round =>
          clear hBr hwo
          obtain ⟨k, rfl, hk, rfl, rfl, hBr⟩ := hrel
          have y1 := below_at hBr p1 hbl
          have y2 := below_at hBr hc1 hb
          by_cases hkl : k < l.length
          · have k0 : (0 : Int) ≤ k := by omega
            have k1 : (k : Int) < l.length := by omega
            obtain ⟨b2, off2, rfl, -, hb2, hcj⟩ := HI.out (by omega)
            have hx := hcj k hkl
            clear hcj
            have HC := Lib.hid (chMax_snoc t ls.length i A hkl)
            have hge2 := Int.le_trans hge (chMax_ge t ls.length i (l.take k) A)
            generalize l.getD k 0 = u at *
            generalize chMax t ls.length i A (l.take k) = A2 at *
            go_wp2_with fail
            go_loopg [6, 9] t.length (fun g s6 s9 wr => Rt3Rel W0 t ls.length i u A2 g s6 s9 wr)
            case atStart => exact ⟨0, rfl, Nat.zero_le _, rfl, rfl, hBr⟩
            case round =>
              clear hBr y1 y2
              obtain ⟨j, rfl, hj, rfl, rfl, hBr⟩ := hrel
              have y1 := below_at hBr p1 hbl
              have y2 := below_at hBr hc1 hb
              have y3 := below_at hBr hx hb2
              by_cases hjl : j < t.length
              · have j0 : (0 : Int) ≤ j := by omega
                have j1 : (j : Int) < t.length := by omega
                obtain ⟨cb, coff, rfl, hcb, hct⟩ := cntAt HT.out (by omega)
                obtain ⟨⟨xu, xn⟩, hxj⟩ : ∃ x, t[j]? = some x := ⟨_, List.getElem?_eq_getElem hjl⟩
                obtain ⟨z0, z1⟩ := hct j _ hxj
                clear hct
                have HJ := Lib.hid (cntMax_snoc ls.length i u A2 hxj)
                have hge3 := Int.le_trans hge2 (cntMax_ge ls.length i u (t.take j) A2)
                replace z0 := below_at hBr z0 hcb
                replace z1 := below_at hBr z1 hcb
                simp only at z0 z1
                generalize cntMax ls.length i u A2 (t.take j) = A3 at *
                clear hxj
                by_cases hxu : xu = u
                · have he : (xu != u) = false := by simp [hxu]
                  have Hxu := Lib.hid hxu
                  clear hxu
                  have HBr := Lib.hid hBr
                  clear hBr
                  by_cases hn1 : 4096 < xn
                  · have Hcl := Lib.hid (show clampP xn = ((4096 : Nat) : Int) by unfold clampP; rw [if_neg (show ¬ xn < 0 by omega), if_pos hn1]; rfl)
                    go_wp2_with fail
                    go_quiet (fail)
                    go_wp2_with fail
                    obtain ⟨wo, hwo⟩ : ∃ wo : World, wo = wr.drewN nq := ⟨_, rfl⟩
                    rw [← hwo]
                    have HBo : Hid (Below W0.heap.size W0 wo) := Lib.hid (by rw [hwo]; exact below_drewN HBr.out _)
                    clear hwo y1 y2 y3 z0 z1
                    go_loopg [6, 11] 4096 (fun g s6 s11 wr => Rt4Rel wo ls.length i A3 4096 g s6 s11 wr)
                    case atStart => exact ⟨0, rfl, Nat.zero_le _, rfl, by rw [tl4_zero _ _ hge3], rfl⟩
                    case round =>
                      obtain ⟨pg, rfl, hpg, rfl, rfl, rfl⟩ := hrel
                      by_cases hpl : pg < 4096
                      · have q0 : (0 : Int) ≤ pg := by omega
                        have q1 : (pg : Int) < 4096 := by omega
                        have q2 : (pg : Int) ≤ 4095 := by omega
                        have m0 : 0 ≤ (pg : Int) * ls.length := Int.mul_nonneg (by omega) (by omega)
                        have m1 : (pg : Int) * ls.length ≤ 4095 * 4 := Int.mul_le_mul q2 g4' (by omega) (by omega)
                        have m2 : (pg : Int) * ls.length + i < 16384 := by omega
                        have hw1 : IntKind.i64.wrap ((pg : Int) * (ls.length : Int)) = (pg : Int) * (ls.length : Int) := wrap64 (by omega) (by omega)
                        have HS4 := Lib.hid (tl4_step ls.length i A3 pg)
                        generalize tl4 ls.length i A3 pg = A4 at *
                        by_cases hmx : A4 < (pg : Int) * ls.length + i + 1
                        · go_wp2_with fail
                          go_roundg (4096 - (pg + 1))
                          case measure => omega
                          case rel => exact ⟨pg + 1, rfl, by omega, by go_num, by rw [HS4.out, if_pos hmx], rfl⟩
                        · go_wp2_with fail
                          go_roundg (4096 - (pg + 1))
                          case measure => omega
                          case rel => exact ⟨pg + 1, rfl, by omega, by go_num, by rw [HS4.out, if_neg (by omega)], rfl⟩
                      · have hpe : pg = 4096 := by omega
                        have HE := Lib.hid (show cntMax ls.length i u A2 (t.take (j + 1)) = tl4 ls.length i A3 pg by rw [HJ.out, if_pos Hxu.out, Hcl.out, hpe]; rfl)
                        have hpz : 4096 ≤ (pg : Int) := by omega
                        clear hpe hpl
                        generalize tl4 ls.length i A3 pg = A4 at *
                        go_wp2_with fail
                        go_roundg (t.length - (j + 1))
                        case measure => omega
                        case rel => exact ⟨j + 1, rfl, by omega, by go_num, by rw [HE.out], HBo.out⟩
                  · by_cases hn2 : 0 < xn
                    · obtain ⟨xm, rfl⟩ : ∃ xm : Nat, xn = xm := ⟨xn.toNat, by omega⟩
                      have Hcl := Lib.hid (show clampP xm = ((xm : Nat) : Int) by unfold clampP; rw [if_neg (show ¬ (xm : Int) < 0 by omega), if_neg hn1])
                      have hn3 : (xm : Int) ≤ 4096 := by omega
                      go_wp2_with fail
                      go_quiet (fail)
                      go_wp2_with fail
                      obtain ⟨wo, hwo⟩ : ∃ wo : World, wo = wr.drewN nq := ⟨_, rfl⟩
                      rw [← hwo]
                      have HBo : Hid (Below W0.heap.size W0 wo) := Lib.hid (by rw [hwo]; exact below_drewN HBr.out _)
                      clear hwo y1 y2 y3 z0 z1
                      go_loopg [6, 11] xm (fun g s6 s11 wr => Rt4Rel wo ls.length i A3 xm g s6 s11 wr)
                      case atStart => exact ⟨0, rfl, Nat.zero_le _, rfl, by rw [tl4_zero _ _ hge3], rfl⟩
                      case round =>
                        obtain ⟨pg, rfl, hpg, rfl, rfl, rfl⟩ := hrel
                        by_cases hpl : pg < xm
                        · have q0 : (0 : Int) ≤ pg := by omega
                          have q1 : (pg : Int) < (xm : Int) := by omega
                          have q2 : (pg : Int) ≤ 4095 := by omega
                          have m0 : 0 ≤ (pg : Int) * ls.length := Int.mul_nonneg (by omega) (by omega)
                          have m1 : (pg : Int) * ls.length ≤ 4095 * 4 := Int.mul_le_mul q2 g4' (by omega) (by omega)
                          have m2 : (pg : Int) * ls.length + i < 16384 := by omega
                          have hw1 : IntKind.i64.wrap ((pg : Int) * (ls.length : Int)) = (pg : Int) * (ls.length : Int) := wrap64 (by omega) (by omega)
                          have HS4 := Lib.hid (tl4_step ls.length i A3 pg)
                          generalize tl4 ls.length i A3 pg = A4 at *
                          by_cases hmx : A4 < (pg : Int) * ls.length + i + 1
                          · go_wp2_with fail
                            go_roundg (xm - (pg + 1))
                            case measure => omega
                            case rel => exact ⟨pg + 1, rfl, by omega, by go_num, by rw [HS4.out, if_pos hmx], rfl⟩
                          · go_wp2_with fail
                            go_roundg (xm - (pg + 1))
                            case measure => omega
                            case rel => exact ⟨pg + 1, rfl, by omega, by go_num, by rw [HS4.out, if_neg (by omega)], rfl⟩
                        · have hpe : pg = xm := by omega
                          have HE := Lib.hid (show cntMax ls.length i u A2 (t.take (j + 1)) = tl4 ls.length i A3 pg by rw [HJ.out, if_pos Hxu.out, Hcl.out, hpe]; rfl)
                          have hpz : (xm : Int) ≤ (pg : Int) := by omega
                          clear hpe hpl
                          generalize tl4 ls.length i A3 pg = A4 at *
                          go_wp2_with fail
                          go_roundg (t.length - (j + 1))
                          case measure => omega
                          case rel => exact ⟨j + 1, rfl, by omega, by go_num, by rw [HE.out], HBo.out⟩
                    · have Hcl := Lib.hid (show clampP xn = ((0 : Nat) : Int) by
                        unfold clampP
                        by_cases h0 : xn < 0
                        · rw [if_pos h0]; rfl
                        · rw [if_neg h0, if_neg hn1]; omega)
                      have hn3 : xn ≤ 0 := by omega
                      go_wp2_with fail
                      go_quiet (fail)
                      go_wp2_with fail
                      obtain ⟨wo, hwo⟩ : ∃ wo : World, wo = wr.drewN nq := ⟨_, rfl⟩
                      rw [← hwo]
                      have HBo : Hid (Below W0.heap.size W0 wo) := Lib.hid (by rw [hwo]; exact below_drewN HBr.out _)
                      clear hwo y1 y2 y3 z0 z1
                      go_loopg [6, 11] 0 (fun g s6 s11 wr => Rt4Rel wo ls.length i A3 0 g s6 s11 wr)
                      case atStart => exact ⟨0, rfl, Nat.zero_le _, rfl, by rw [tl4_zero _ _ hge3], rfl⟩
                      case round =>
                        obtain ⟨pg, rfl, hpg, rfl, rfl, rfl⟩ := hrel
                        by_cases hpl : pg < 0
                        · have q0 : (0 : Int) ≤ pg := by omega
                          have q1 : (pg : Int) < 0 := by omega
                          have q2 : (pg : Int) ≤ 4095 := by omega
                          have m0 : 0 ≤ (pg : Int) * ls.length := Int.mul_nonneg (by omega) (by omega)
                          have m1 : (pg : Int) * ls.length ≤ 4095 * 4 := Int.mul_le_mul q2 g4' (by omega) (by omega)
                          have m2 : (pg : Int) * ls.length + i < 16384 := by omega
                          have hw1 : IntKind.i64.wrap ((pg : Int) * (ls.length : Int)) = (pg : Int) * (ls.length : Int) := wrap64 (by omega) (by omega)
                          have HS4 := Lib.hid (tl4_step ls.length i A3 pg)
                          generalize tl4 ls.length i A3 pg = A4 at *
                          by_cases hmx : A4 < (pg : Int) * ls.length + i + 1
                          · go_wp2_with fail
                            go_roundg (0 - (pg + 1))
                            case measure => omega
                            case rel => exact ⟨pg + 1, rfl, by omega, by go_num, by rw [HS4.out, if_pos hmx], rfl⟩
                          · go_wp2_with fail
                            go_roundg (0 - (pg + 1))
                            case measure => omega
                            case rel => exact ⟨pg + 1, rfl, by omega, by go_num, by rw [HS4.out, if_neg (by omega)], rfl⟩
                        · have hpe : pg = 0 := by omega
                          have HE := Lib.hid (show cntMax ls.length i u A2 (t.take (j + 1)) = tl4 ls.length i A3 pg by rw [HJ.out, if_pos Hxu.out, Hcl.out, hpe]; rfl)
                          have hpz : 0 ≤ (pg : Int) := by omega
                          clear hpe hpl
                          generalize tl4 ls.length i A3 pg = A4 at *
                          go_wp2_with fail
                          go_roundg (t.length - (j + 1))
                          case measure => omega
                          case rel => exact ⟨j + 1, rfl, by omega, by go_num, by rw [HE.out], HBo.out⟩
                · have he : (xu != u) = true := by simp [hxu]
                  have Hxu := Lib.hid hxu
                  clear hxu
                  have HBr := Lib.hid hBr
                  clear hBr
                  go_wp2_with fail
                  go_quiet (fail)
                  go_wp2_with fail
                  go_roundg (t.length - (j + 1))
                  case measure => omega
                  case rel =>
                    refine ⟨j + 1, rfl, by omega, by go_num, ?_, below_drewN HBr.out _⟩
                    rw [HJ.out, if_neg Hxu.out]
              · obtain rfl : j = t.length := by omega
                rw [List.take_length]
                go_wp2_with fail
                go_roundg (l.length - (k + 1))
                case measure => omega
                case rel => exact ⟨k + 1, rfl, by omega, by go_num, by rw [HC.out], hBr⟩
          · obtain rfl : k = l.length := by omega
            rw [List.take_length]
            go_wp2_with fail
            go_roundg (ls.length - (i + 1))
            case measure => omega
            case rel => exact ⟨i + 1, rfl, by omega, by go_num, by rw [HS.out], hBr⟩
      · obtain rfl : i = ls.length := by omega
        go_wp2_with fail
        go_ret
        refine ⟨?_, HB0.out.trans (hBr.mono HB0.out.size)⟩
        show Ending.returned (.int .i64 (maxV ls.length (spotsP t ls ls.length))) = _
        unfold tailP
        rw [if_pos Hg.out.symm]
end Go.Proofs.YtghdhhbpbmhooaaGreat
