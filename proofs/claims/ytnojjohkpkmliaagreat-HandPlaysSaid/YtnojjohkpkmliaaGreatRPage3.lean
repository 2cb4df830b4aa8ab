/- the document's pages: trimmed, their tail -/
import Derived.Test.YtnojjohkpkmliaaGreatRPage2
import Derived.Test.YtnojjohkpkmliaaGreatPkPage
namespace Go.Proofs.YtnojjohkpkmliaaGreat
open Go.RowKit Esch

def flt (m : List PgE) (E k : Nat) : List PgE := (m.take k).filter fun p => decide ((E : Int) ≤ p.1)
theorem flt_yes {m : List PgE} {E k : Nat} {p : PgE} (hp : m[k]? = some p) (h : (E : Int) ≤ p.1) : flt m E (k + 1) = flt m E k ++ [p] := by
  unfold flt
  rw [List.take_add_one, hp, List.filter_append]
  simp [h]
theorem flt_no {m : List PgE} {E k : Nat} {p : PgE} (hp : m[k]? = some p) (h : ¬ (E : Int) ≤ p.1) : flt m E (k + 1) = flt m E k := by
  unfold flt
  rw [List.take_add_one, hp, List.filter_append]
  simp [h]
theorem flt_len (m : List PgE) (E k : Nat) : (flt m E k).length ≤ m.length := by
  unfold flt
  exact Nat.le_trans (List.length_filter_le _ _) (by rw [List.length_take]; omega)
def RTrimRel (W1 : World) (m : List PgE) (E : Nat) (g : Nat) (s5 s6 : Value) (wr : World) : Prop := ∃ (k n : Nat) (ao : Option Addr) (cap : Nat), g = m.length - k ∧ k ≤ m.length ∧ s6 = .int .i64 k ∧ s5 = .slice ao n cap ∧ n = (flt m E k).length ∧ GRowAt wr (From W1.heap.size) 3 n cap ao (pgCells (flt m E k)) ∧ Below W1.heap.size W1 wr
section
variable {w : World} {b : Nat} {S : Nat → Prop} {s : PgS}
set_option maxRecDepth 100000 in
set_option maxHeartbeats 2000000 in
theorem rtrim_any (h : RPgAt w b S s) (hS : ¬ S b) (hok : s.ok) (a : Int) : Calls Tryz.prog 77 #[.pointer (some ⟨b, 0, none⟩), .int .i64 a] w (RPgPost w b S (s.trim a)) := by
  obtain ⟨ao, cap, c0, hr⟩ := h.row
  have c1 := h.c1
  have c2 := h.c2
  have g2 := h.fr 2 (by decide)
  have hlen : s.m.length ≤ 4096 := by have := hok.len; have := hok.room; omega
  have H := Lib.hid h
  have HRow := Lib.hid hr
  have Hsb := Lib.hid hS
  obtain ⟨j0, hi, hy0, hy1, hy2⟩ := info_parts Tryz.infoOne
  clear h hr hS hok
  by_cases ha : a < 0 ∨ 4096 < a
  · have HR := Lib.hid (show s.trim a = (1, s) by unfold PgS.trim; rw [if_pos ha])
    rcases ha with ha | ha
    all_goals
      go_enter Tryz.func77, Tryz.ntmps77
      go_wp2_with fail
      go_ret
      exact ⟨by rw [HR.out]; rfl, by rw [HR.out]; exact H.out.same (Below.refl _ _), Mod.refl _ _⟩
  · obtain ⟨A, rfl⟩ : ∃ A : Nat, a = A := ⟨a.toNat, by omega⟩
    have ha1 : (A : Int) ≤ 4096 := by omega
    have ha0 : (0 : Int) ≤ A := by omega
    have Ha := Lib.hid ha
    clear ha
    by_cases he : s.edge < A
    · have he' : (s.edge : Int) < A := by omega
      have HR := Lib.hid (show s.trim (A : Int) = (0, { s with edge := A, m := s.m.filter fun p => decide (((A : Nat) : Int) ≤ p.1) }) by
        unfold PgS.trim
        rw [if_neg (by have := Ha.out; omega), show max s.edge (A : Int).toNat = A by omega])
      clear he
      go_enter Tryz.func77, Tryz.ntmps77
      go_wp2_with fail
      obtain ⟨W1, hW1⟩ : ∃ W, W = w.setCell ⟨b, 2, none⟩ (.int .i64 ((A : Nat) : Int)) := ⟨_, rfl⟩
      have hM1 : Mod (· = b) w W1 := by rw [hW1]; (repeat' (first | (with_reducible exact (Mod.refl _ _)) | (with_reducible apply Mod.drew) | (with_reducible apply Mod.drewN) | (with_reducible apply Mod.alloc) | (with_reducible apply Mod.setCellAt) | (intro _; first | rfl | exact Or.inl rfl | exact Or.inr rfl) | (intro h; exfalso; omega)))
      have hz1 : W1.heap.size = w.heap.size := by rw [hW1]; simp
      have d0 : W1.cell? ⟨b, 0, none⟩ = some (.slice ao s.m.length cap) := by rw [hW1]; go_simp
      have d1 : W1.cell? ⟨b, 1, none⟩ = some (.int .i64 s.room) := by rw [hW1]; go_simp
      have d2 : W1.cell? ⟨b, 2, none⟩ = some (.int .i64 ((A : Nat) : Int)) := by rw [hW1]; go_simp
      have HF := Lib.hid (show ∀ o, o < 3 → W1.frozen? ⟨b, o, none⟩ = false from fun o ho => by have := H.out.fr o ho; rw [hW1]; go_simp)
      have f0 := HF.out 0 (by decide)
      have HR1 := Lib.hid (HRow.out.mod hM1 (fun k hk _ e => Hsb.out (by subst e; exact hk)))
      have HP1 := Lib.hid (show RPgAt W1 b S { s with edge := A } from ⟨⟨ao, cap, d0, HR1.out⟩, d1, d2, HF.out⟩)
      have hl1 := cell_lt d0
      rw [← hW1]
      have Hz1 := Lib.hid hz1
      have HM1 := Lib.hid hM1
      clear hW1 hM1 hz1 c0 c1 c2 g2
      go_loopg [5, 6] s.m.length (fun g s5 s6 wr => RTrimRel W1 s.m A g s5 s6 wr)
      case atStart => exact ⟨0, 0, none, 0, rfl, Nat.zero_le _, rfl, rfl, rfl, GRowAt.nil _ _ _ _, Below.refl _ _⟩
      case round =>
        obtain ⟨k, n, xo, xc, rfl, hk, rfl, rfl, hnl, hg, hBr⟩ := hrel
        have HG := Lib.hid hg
        have HBr := Lib.hid hBr
        have Hnl := Lib.hid hnl
        have hn4 : n ≤ 4096 := by have := flt_len s.m A k; omega
        have hzr := hBr.size
        have e0 := below_at hBr d0 hl1
        have e2 := below_at hBr d2 hl1
        clear hg hnl
        by_cases hkl : k < s.m.length
        · obtain ⟨rb, off, rfl, -, -, hc⟩ := rowAt (HR1.out.mod (F := none') (Mod.of_below hBr) (fun _ _ _ => id)) (by omega)
          obtain ⟨p, hp⟩ : ∃ p, s.m[k]? = some p := ⟨_, List.getElem?_eq_getElem hkl⟩
          obtain ⟨k0, k1, k2⟩ := hc k p hp
          have Hp := Lib.hid hp
          have n0 : (0 : Int) ≤ k := by omega
          have n1 : (k : Int) < s.m.length := by omega
          clear hc hp hBr
          by_cases hpe : ((A : Nat) : Int) ≤ p.1
          · have Hpe := Lib.hid hpe
            go_wp2_with fail
            go_region
            go_wp2_with (at_builtin; first
              | (refine wpList_append_g (by rfl) (.tmp 44) (.tmp 52) 136 136 (by rfl) 142 j0 _ 32 Tryz.underlying136 hi hy0 hy1 hy2 (by rfl) (by rfl) (HG.out.mod (F := none') (by (repeat' (first | (with_reducible exact (Mod.refl _ _)) | (with_reducible apply Mod.drew) | (with_reducible apply Mod.drewN) | (with_reducible apply Mod.alloc) | (with_reducible apply Mod.setCellAt) | (intro _; first | rfl | exact Or.inl rfl | exact Or.inr rfl) | (intro h; exfalso; omega)))) (fun _ _ _ => id)) _ 1 (pgC p) (by rfl) (src_pg _ _ Tryz.underlying136 wr.heap.size p 142 (show ((wr.alloc (.cells (pgC p).toArray 142)).drew).heap[wr.heap.size]? = some (.cells (pgC p).toArray 142) from heap_alloc_new _ _) _) (by omega) (by omega) ?_; intro a8 cap8 w8 hg8 hM8 hz8
                 have hB8 : Below W1.heap.size W1 w8 := HBr.out.trans ((show Mod (From W1.heap.size) wr w8 from Mod.trans (by (repeat' (first | (with_reducible exact (Mod.refl _ _)) | (with_reducible apply Mod.drew) | (with_reducible apply Mod.drewN) | (with_reducible apply Mod.alloc) | (with_reducible apply Mod.setCellAt) | (intro _; first | rfl | exact Or.inl rfl | exact Or.inr rfl) | (intro h; exfalso; omega)))) hM8).below_at hzr (fun k hk e => by have e : W1.heap.size ≤ k := e; omega))
                 have HG8 := Lib.hid hg8
                 have HB8 := Lib.hid hB8
                 clear hg8 hM8 hB8))
            go_roundg (s.m.length - (k + 1))
            case measure => omega
            case rel =>
              have hg := HG8.out
              rw [show pgCells (flt s.m A k) ++ pgC p = pgCells (flt s.m A (k + 1)) by rw [flt_yes Hp.out Hpe.out, pgCells_append]; rfl] at hg
              exact ⟨k + 1, n + 1, a8, cap8, rfl, by omega, by go_num, rfl, by rw [flt_yes Hp.out Hpe.out, List.length_append, ← Hnl.out]; rfl, hg.sub (fun j _ hj => by
                rcases hj with hj | hj
                · exact hj
                · show W1.heap.size ≤ j; rw [hj]; simp; omega), HB8.out⟩
          · have hpe' : p.1 < ((A : Nat) : Int) := by omega
            have Hpe := Lib.hid hpe
            clear hpe
            go_wp2_with fail
            go_region
            go_wp2_with fail
            go_roundg (s.m.length - (k + 1))
            case measure => omega
            case rel =>
              have hfl := flt_no Hp.out (show ¬ ((A : Nat) : Int) ≤ p.1 by have := Hpe.out; omega)
              exact ⟨k + 1, n, xo, xc, rfl, by omega, by go_num, rfl, by rw [hfl]; exact Hnl.out, by rw [hfl]; exact HG.out.mod (F := none') (by (repeat' (first | (with_reducible exact (Mod.refl _ _)) | (with_reducible apply Mod.drew) | (with_reducible apply Mod.drewN) | (with_reducible apply Mod.alloc) | (with_reducible apply Mod.setCellAt) | (intro _; first | rfl | exact Or.inl rfl | exact Or.inr rfl) | (intro h; exfalso; omega)))) (fun _ _ _ => id), by have hB := HBr.out; (repeat (first | with_reducible exact hB | with_reducible refine Below.drew ?_ | with_reducible refine Esch.below_drewN ?_ _ | with_reducible refine Below.setCell ?_ (by first | omega | (simp; done) | (simp; omega)) _ | with_reducible refine Below.alloc ?_ (by first | omega | (simp; done) | (simp; omega)) _))⟩
        · obtain rfl : k = s.m.length := by omega
          have g0 := (hBr.frozen (p := ⟨b, 0, none⟩) hl1).trans f0
          clear hBr hkl hk
          go_wp2_with fail
          go_ret
          obtain ⟨h1, h2⟩ := HP1.out.setRow HBr.out HG.out Hnl.out
          have hfm : flt s.m A s.m.length = s.m.filter fun p => decide (((A : Nat) : Int) ≤ p.1) := by unfold flt; rw [List.take_length]
          rw [hfm] at h1
          refine ⟨by rw [HR.out]; rfl, ?_, (show Mod (· = b) w _ from HM1.out.trans h2)⟩
          rw [HR.out, ← Hz1.out]
          exact h1
    · have he' : (A : Int) ≤ s.edge := by omega
      have HR := Lib.hid (show s.trim (A : Int) = (0, { s with edge := s.edge, m := s.m.filter fun p => decide (((s.edge : Nat) : Int) ≤ p.1) }) by
        unfold PgS.trim
        rw [if_neg (by have := Ha.out; omega), show max s.edge (A : Int).toNat = s.edge by omega])
      clear he
      go_enter Tryz.func77, Tryz.ntmps77
      go_wp2_with fail
      obtain ⟨W1, hW1⟩ : ∃ W, W = w.setCell ⟨b, 2, none⟩ (.int .i64 ((s.edge : Nat) : Int)) := ⟨_, rfl⟩
      have hM1 : Mod (· = b) w W1 := by rw [hW1]; (repeat' (first | (with_reducible exact (Mod.refl _ _)) | (with_reducible apply Mod.drew) | (with_reducible apply Mod.drewN) | (with_reducible apply Mod.alloc) | (with_reducible apply Mod.setCellAt) | (intro _; first | rfl | exact Or.inl rfl | exact Or.inr rfl) | (intro h; exfalso; omega)))
      have hz1 : W1.heap.size = w.heap.size := by rw [hW1]; simp
      have d0 : W1.cell? ⟨b, 0, none⟩ = some (.slice ao s.m.length cap) := by rw [hW1]; go_simp
      have d1 : W1.cell? ⟨b, 1, none⟩ = some (.int .i64 s.room) := by rw [hW1]; go_simp
      have d2 : W1.cell? ⟨b, 2, none⟩ = some (.int .i64 ((s.edge : Nat) : Int)) := by rw [hW1]; go_simp
      have HF := Lib.hid (show ∀ o, o < 3 → W1.frozen? ⟨b, o, none⟩ = false from fun o ho => by have := H.out.fr o ho; rw [hW1]; go_simp)
      have f0 := HF.out 0 (by decide)
      have HR1 := Lib.hid (HRow.out.mod hM1 (fun k hk _ e => Hsb.out (by subst e; exact hk)))
      have HP1 := Lib.hid (show RPgAt W1 b S { s with edge := s.edge } from ⟨⟨ao, cap, d0, HR1.out⟩, d1, d2, HF.out⟩)
      have hl1 := cell_lt d0
      rw [← hW1]
      have Hz1 := Lib.hid hz1
      have HM1 := Lib.hid hM1
      clear hW1 hM1 hz1 c0 c1 c2 g2
      go_loopg [5, 6] s.m.length (fun g s5 s6 wr => RTrimRel W1 s.m s.edge g s5 s6 wr)
      case atStart => exact ⟨0, 0, none, 0, rfl, Nat.zero_le _, rfl, rfl, rfl, GRowAt.nil _ _ _ _, Below.refl _ _⟩
      case round =>
        obtain ⟨k, n, xo, xc, rfl, hk, rfl, rfl, hnl, hg, hBr⟩ := hrel
        have HG := Lib.hid hg
        have HBr := Lib.hid hBr
        have Hnl := Lib.hid hnl
        have hn4 : n ≤ 4096 := by have := flt_len s.m s.edge k; omega
        have hzr := hBr.size
        have e0 := below_at hBr d0 hl1
        have e2 := below_at hBr d2 hl1
        clear hg hnl
        by_cases hkl : k < s.m.length
        · obtain ⟨rb, off, rfl, -, -, hc⟩ := rowAt (HR1.out.mod (F := none') (Mod.of_below hBr) (fun _ _ _ => id)) (by omega)
          obtain ⟨p, hp⟩ : ∃ p, s.m[k]? = some p := ⟨_, List.getElem?_eq_getElem hkl⟩
          obtain ⟨k0, k1, k2⟩ := hc k p hp
          have Hp := Lib.hid hp
          have n0 : (0 : Int) ≤ k := by omega
          have n1 : (k : Int) < s.m.length := by omega
          clear hc hp hBr
          by_cases hpe : ((s.edge : Nat) : Int) ≤ p.1
          · have Hpe := Lib.hid hpe
            go_wp2_with fail
            go_region
            go_wp2_with (at_builtin; first
              | (refine wpList_append_g (by rfl) (.tmp 44) (.tmp 52) 136 136 (by rfl) 142 j0 _ 32 Tryz.underlying136 hi hy0 hy1 hy2 (by rfl) (by rfl) (HG.out.mod (F := none') (by (repeat' (first | (with_reducible exact (Mod.refl _ _)) | (with_reducible apply Mod.drew) | (with_reducible apply Mod.drewN) | (with_reducible apply Mod.alloc) | (with_reducible apply Mod.setCellAt) | (intro _; first | rfl | exact Or.inl rfl | exact Or.inr rfl) | (intro h; exfalso; omega)))) (fun _ _ _ => id)) _ 1 (pgC p) (by rfl) (src_pg _ _ Tryz.underlying136 wr.heap.size p 142 (show ((wr.alloc (.cells (pgC p).toArray 142)).drew).heap[wr.heap.size]? = some (.cells (pgC p).toArray 142) from heap_alloc_new _ _) _) (by omega) (by omega) ?_; intro a8 cap8 w8 hg8 hM8 hz8
                 have hB8 : Below W1.heap.size W1 w8 := HBr.out.trans ((show Mod (From W1.heap.size) wr w8 from Mod.trans (by (repeat' (first | (with_reducible exact (Mod.refl _ _)) | (with_reducible apply Mod.drew) | (with_reducible apply Mod.drewN) | (with_reducible apply Mod.alloc) | (with_reducible apply Mod.setCellAt) | (intro _; first | rfl | exact Or.inl rfl | exact Or.inr rfl) | (intro h; exfalso; omega)))) hM8).below_at hzr (fun k hk e => by have e : W1.heap.size ≤ k := e; omega))
                 have HG8 := Lib.hid hg8
                 have HB8 := Lib.hid hB8
                 clear hg8 hM8 hB8))
            go_roundg (s.m.length - (k + 1))
            case measure => omega
            case rel =>
              have hg := HG8.out
              rw [show pgCells (flt s.m s.edge k) ++ pgC p = pgCells (flt s.m s.edge (k + 1)) by rw [flt_yes Hp.out Hpe.out, pgCells_append]; rfl] at hg
              exact ⟨k + 1, n + 1, a8, cap8, rfl, by omega, by go_num, rfl, by rw [flt_yes Hp.out Hpe.out, List.length_append, ← Hnl.out]; rfl, hg.sub (fun j _ hj => by
                rcases hj with hj | hj
                · exact hj
                · show W1.heap.size ≤ j; rw [hj]; simp; omega), HB8.out⟩
          · have hpe' : p.1 < ((s.edge : Nat) : Int) := by omega
            have Hpe := Lib.hid hpe
            clear hpe
            go_wp2_with fail
            go_region
            go_wp2_with fail
            go_roundg (s.m.length - (k + 1))
            case measure => omega
            case rel =>
              have hfl := flt_no Hp.out (show ¬ ((s.edge : Nat) : Int) ≤ p.1 by have := Hpe.out; omega)
              exact ⟨k + 1, n, xo, xc, rfl, by omega, by go_num, rfl, by rw [hfl]; exact Hnl.out, by rw [hfl]; exact HG.out.mod (F := none') (by (repeat' (first | (with_reducible exact (Mod.refl _ _)) | (with_reducible apply Mod.drew) | (with_reducible apply Mod.drewN) | (with_reducible apply Mod.alloc) | (with_reducible apply Mod.setCellAt) | (intro _; first | rfl | exact Or.inl rfl | exact Or.inr rfl) | (intro h; exfalso; omega)))) (fun _ _ _ => id), by have hB := HBr.out; (repeat (first | with_reducible exact hB | with_reducible refine Below.drew ?_ | with_reducible refine Esch.below_drewN ?_ _ | with_reducible refine Below.setCell ?_ (by first | omega | (simp; done) | (simp; omega)) _ | with_reducible refine Below.alloc ?_ (by first | omega | (simp; done) | (simp; omega)) _))⟩
        · obtain rfl : k = s.m.length := by omega
          have g0 := (hBr.frozen (p := ⟨b, 0, none⟩) hl1).trans f0
          clear hBr hkl hk
          go_wp2_with fail
          go_ret
          obtain ⟨h1, h2⟩ := HP1.out.setRow HBr.out HG.out Hnl.out
          have hfm : flt s.m s.edge s.m.length = s.m.filter fun p => decide (((s.edge : Nat) : Int) ≤ p.1) := by unfold flt; rw [List.take_length]
          rw [hfm] at h1
          refine ⟨by rw [HR.out]; rfl, ?_, (show Mod (· = b) w _ from HM1.out.trans h2)⟩
          rw [HR.out, ← Hz1.out]
          exact h1
def RTailRel (w : World) (s : PgS) (g : Nat) (s3 s4 : Value) (wr : World) : Prop := ∃ k : Nat, g = s.m.length - k ∧ k ≤ s.m.length ∧ s4 = .int .i64 k ∧ s3 = .int .i64 (tailOf s.edge (s.m.take k)) ∧ wr = w
set_option maxHeartbeats 1000000 in
theorem rtail_any (h : RPgAt w b S s) (hok : s.ok) : Calls Tryz.prog 49 #[.pointer (some ⟨b, 0, none⟩)] w fun e w' => e = .returned (.int .i64 s.tail) ∧ w' = w := by
  obtain ⟨ao, cap, c0, hr⟩ := h.row
  have c2 := h.c2
  have hlen : s.m.length ≤ 4096 := by have := hok.len; have := hok.room; omega
  have HR := Lib.hid hr
  have Hok := Lib.hid hok
  clear h hr hok
  go_enter Tryz.func49, Tryz.ntmps49
  go_wp2_with fail
  go_loopg [3, 4] s.m.length (fun g s3 s4 wr => RTailRel w s g s3 s4 wr)
  case atStart => exact ⟨0, rfl, Nat.zero_le _, rfl, rfl, rfl⟩
  case round =>
    obtain ⟨k, rfl, hk, rfl, rfl, rfl⟩ := hrel
    by_cases hkl : k < s.m.length
    · obtain ⟨rb, off, rfl, -, -, hc⟩ := rowAt HR.out (by omega)
      obtain ⟨p, hp⟩ : ∃ p, s.m[k]? = some p := ⟨_, List.getElem?_eq_getElem hkl⟩
      obtain ⟨k0, -, -⟩ := hc k p hp
      have hmem : p ∈ s.m := List.mem_of_getElem? hp
      obtain ⟨u0, u1⟩ := Hok.out.keys p hmem
      have hb := tailOf_bounds (l := s.m.take k) (e := s.edge) (by omega) (by have := Hok.out.edge; omega) (fun q hq => (Hok.out.keys q (List.mem_of_mem_take hq)).2)
      have hs : tailOf s.edge (s.m.take (k + 1)) = max (tailOf s.edge (s.m.take k)) (p.1 + 1) := by
        rw [List.take_add_one, hp]
        exact tailOf_snoc _ _ _
      generalize tailOf s.edge (s.m.take k) = tv at hb hs ⊢
      obtain ⟨t0, t1⟩ := hb
      have Hs := Lib.hid hs
      have n0 : (0 : Int) ≤ k := by omega
      have n1 : (k : Int) < s.m.length := by omega
      obtain ⟨u, hu⟩ : ∃ u, u = p.1 := ⟨_, rfl⟩
      rw [← hu] at k0 u0 u1
      have Hu := Lib.hid hu
      clear hc hp hs hmem hu
      go_wp2_with fail
      all_goals go_roundg (s.m.length - (k + 1))
      all_goals first
        | (show _ < _; omega)
        | (refine ⟨k + 1, rfl, by omega, by go_num, ?_, rfl⟩
           rw [Hs.out, ← Hu.out]
           show Value.int .i64 _ = Value.int .i64 (max tv (u + 1))
           congr 1
           omega)
    · obtain rfl : k = s.m.length := by omega
      clear hkl hk
      go_wp2_with fail
      go_ret
      refine ⟨?_, rfl⟩
      show Ending.returned (Value.int .i64 (tailOf s.edge (s.m.take s.m.length))) = _
      rw [List.take_length]
      rfl
end
end Go.Proofs.YtnojjohkpkmliaaGreat
