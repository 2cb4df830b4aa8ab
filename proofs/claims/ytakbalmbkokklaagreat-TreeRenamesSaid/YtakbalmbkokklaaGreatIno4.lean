/- package inode: Truncate of a file without parts -/
import Derived.Test.YtakbalmbkokklaaGreatPkIno
namespace Go.Proofs.YtakbalmbkokklaaGreat
open Go.RowKit Esch Go.Shelf

theorem extGood_nil (w : World) : Calls Tryz.prog 121 #[.slice none 0 0] w fun e w' => e = .returned (.bool true) ∧ w' = w := by
  go_enter Tryz.func121, Tryz.ntmps121
  go_wp2_with fail
  go_loopg [10] 0 (fun g s10 wr => s10 = .int .i64 0 ∧ wr = w)
  case atStart => exact ⟨rfl, rfl⟩
  case round =>
    obtain ⟨rfl, rfl⟩ := hrel
    go_wp2_with fail
    go_ret
    exact ⟨rfl, rfl⟩
theorem extCut_nil (w : World) (n : Int) : Calls Tryz.prog 91 #[.slice none 0 0, .int .i64 n] w fun e w' => e = .returned (.slice none 0 0) ∧ w' = w := by
  have hg := extGood_nil w
  go_enter Tryz.func91, Tryz.ntmps91
  go_wp2_with fail
  refine hg.mono ?_
  clear hg
  rintro e w1 ⟨rfl, rfl⟩
  go_wp2_with fail
  go_loopg [5, 13] 0 (fun g s5 s13 wr => s5 = .slice none 0 0 ∧ s13 = .int .i64 0 ∧ wr = w1)
  case atStart => exact ⟨rfl, rfl, rfl⟩
  case round =>
    obtain ⟨rfl, rfl, rfl⟩ := hrel
    go_wp2_with fail
    go_ret
    exact ⟨rfl, rfl⟩
def fileOf (s : TabS) (i : Int) : InS × Int := if s.has i = false then (in0, 60) else if (s.at i).kind = 1 then (in0, 63) else (s.at i, 0)
set_option maxRecDepth 100000 in
set_option maxHeartbeats 2000000 in
theorem inoFile_any (w : World) (b : Nat) (S : Nat → Prop) (s : TabS) (h : TabAt w b S s) (i : Int) :
    Calls Tryz.prog 90 #[.pointer (some ⟨b, 0, none⟩), .int .i64 i] w fun e w' => e = .returned (.tuple #[inV (fileOf s i).1, .int .i64 (fileOf s i).2]) ∧ Below w.heap.size w w' := by
  obtain ⟨W1, hW1⟩ : ∃ W1, W1 = w.alloc (.cells #[.int .i64 0, .int .i64 0, .int .i64 0, .int .i64 0, .int .i64 0, .slice none 0 0] 85) := ⟨_, rfl⟩
  have hB1 : Below w.heap.size w W1 := by rw [hW1]; exact belC (Below.refl _ _)
  have hg := inoGet_any W1 b S s (h.below' hB1) i
  obtain ⟨c0, c1, c2, c3, c4, c5⟩ : W1.cell? ⟨w.heap.size, 0, none⟩ = some (.int .i64 0) ∧ W1.cell? ⟨w.heap.size, 1, none⟩ = some (.int .i64 0) ∧ W1.cell? ⟨w.heap.size, 2, none⟩ = some (.int .i64 0) ∧ W1.cell? ⟨w.heap.size, 3, none⟩ = some (.int .i64 0) ∧ W1.cell? ⟨w.heap.size, 4, none⟩ = some (.int .i64 0) ∧ W1.cell? ⟨w.heap.size, 5, none⟩ = some (.slice none 0 0) := by rw [hW1]; exact ⟨by go_simp, by go_simp, by go_simp, by go_simp, by go_simp, by go_simp⟩
  obtain ⟨f0, f1, f2, f3, f4, f5⟩ : W1.frozen? ⟨w.heap.size, 0, none⟩ = false ∧ W1.frozen? ⟨w.heap.size, 1, none⟩ = false ∧ W1.frozen? ⟨w.heap.size, 2, none⟩ = false ∧ W1.frozen? ⟨w.heap.size, 3, none⟩ = false ∧ W1.frozen? ⟨w.heap.size, 4, none⟩ = false ∧ W1.frozen? ⟨w.heap.size, 5, none⟩ = false := by rw [hW1]; exact ⟨by go_simp, by go_simp, by go_simp, by go_simp, by go_simp, by go_simp⟩
  obtain ⟨r, hr⟩ : ∃ r, r = fileOf s i := ⟨_, rfl⟩
  rw [← hr]
  unfold fileOf at hr
  obtain ⟨⟨x0, x1, x2, x3, x4⟩, hx⟩ : ∃ x, x = s.at i := ⟨_, rfl⟩
  rw [← hx] at hg hr
  generalize s.has i = y at hg hr
  simp only [inV] at hg ⊢
  have HW1 := Lib.hid hW1
  have HB1 := Lib.hid hB1
  clear hx hW1 hB1 h
  have hl : w.heap.size < W1.heap.size := cell_lt c0
  cases y
  · rw [if_pos rfl] at hr
    subst hr
    go_enter Tryz.func90, Tryz.ntmps90
    go_wp2_with fail
    rw [← HW1.out]
    refine hg.mono ?_
    clear hg
    rintro e W2 ⟨rfl, hB2⟩
    have c0 := below_at hB2 c0 hl
    have c1 := below_at hB2 c1 hl
    have c2 := below_at hB2 c2 hl
    have c3 := below_at hB2 c3 hl
    have c4 := below_at hB2 c4 hl
    have c5 := below_at hB2 c5 hl
    have f0 := (hB2.frozen (p := ⟨w.heap.size, 0, none⟩) hl).trans f0
    have f1 := (hB2.frozen (p := ⟨w.heap.size, 1, none⟩) hl).trans f1
    have f2 := (hB2.frozen (p := ⟨w.heap.size, 2, none⟩) hl).trans f2
    have f3 := (hB2.frozen (p := ⟨w.heap.size, 3, none⟩) hl).trans f3
    have f4 := (hB2.frozen (p := ⟨w.heap.size, 4, none⟩) hl).trans f4
    have f5 := (hB2.frozen (p := ⟨w.heap.size, 5, none⟩) hl).trans f5
    have hlt := cell_lt c0
    have HB2 := Lib.hid (HB1.out.trans (hB2.mono HB1.out.size))
    clear hB2
    go_wp2_with fail
    refine bodyPost_ret (v := .tuple #[.agg #[.int .i64 0, .int .i64 0, .int .i64 0, .int .i64 0, .int .i64 0, .slice none 0 0], .int .i64 60]) (by simp [results, Tryz.results90, go_sem, *]) rfl ?_
    have hz := HB2.out.size
    exact ⟨rfl, by exact belC HB2.out⟩
  rw [if_neg (by simp)] at hr
  by_cases hk : x1 = 1
  · rw [if_pos hk] at hr
    subst hr
    subst hk
    go_enter Tryz.func90, Tryz.ntmps90
    go_wp2_with fail
    rw [← HW1.out]
    refine hg.mono ?_
    clear hg
    rintro e W2 ⟨rfl, hB2⟩
    have c0 := below_at hB2 c0 hl
    have c1 := below_at hB2 c1 hl
    have c2 := below_at hB2 c2 hl
    have c3 := below_at hB2 c3 hl
    have c4 := below_at hB2 c4 hl
    have c5 := below_at hB2 c5 hl
    have f0 := (hB2.frozen (p := ⟨w.heap.size, 0, none⟩) hl).trans f0
    have f1 := (hB2.frozen (p := ⟨w.heap.size, 1, none⟩) hl).trans f1
    have f2 := (hB2.frozen (p := ⟨w.heap.size, 2, none⟩) hl).trans f2
    have f3 := (hB2.frozen (p := ⟨w.heap.size, 3, none⟩) hl).trans f3
    have f4 := (hB2.frozen (p := ⟨w.heap.size, 4, none⟩) hl).trans f4
    have f5 := (hB2.frozen (p := ⟨w.heap.size, 5, none⟩) hl).trans f5
    have hlt := cell_lt c0
    have HB2 := Lib.hid (HB1.out.trans (hB2.mono HB1.out.size))
    clear hB2
    go_wp2_with fail
    refine bodyPost_ret (v := .tuple #[.agg #[.int .i64 0, .int .i64 0, .int .i64 0, .int .i64 0, .int .i64 0, .slice none 0 0], .int .i64 63]) (by simp [results, Tryz.results90, go_sem, *]) rfl ?_
    have hz := HB2.out.size
    exact ⟨rfl, by exact belC HB2.out⟩
  · rw [if_neg hk] at hr
    subst hr
    have hk2 : (x1 == 1) = false := by simpa using hk
    clear hk
    go_enter Tryz.func90, Tryz.ntmps90
    go_wp2_with fail
    rw [← HW1.out]
    refine hg.mono ?_
    clear hg
    rintro e W2 ⟨rfl, hB2⟩
    have c0 := below_at hB2 c0 hl
    have c1 := below_at hB2 c1 hl
    have c2 := below_at hB2 c2 hl
    have c3 := below_at hB2 c3 hl
    have c4 := below_at hB2 c4 hl
    have c5 := below_at hB2 c5 hl
    have f0 := (hB2.frozen (p := ⟨w.heap.size, 0, none⟩) hl).trans f0
    have f1 := (hB2.frozen (p := ⟨w.heap.size, 1, none⟩) hl).trans f1
    have f2 := (hB2.frozen (p := ⟨w.heap.size, 2, none⟩) hl).trans f2
    have f3 := (hB2.frozen (p := ⟨w.heap.size, 3, none⟩) hl).trans f3
    have f4 := (hB2.frozen (p := ⟨w.heap.size, 4, none⟩) hl).trans f4
    have f5 := (hB2.frozen (p := ⟨w.heap.size, 5, none⟩) hl).trans f5
    have hlt := cell_lt c0
    have HB2 := Lib.hid (HB1.out.trans (hB2.mono HB1.out.size))
    clear hB2
    go_wp2_with fail
    refine bodyPost_ret (v := .tuple #[.agg #[.int .i64 x0, .int .i64 x1, .int .i64 x2, .int .i64 x3, .int .i64 x4, .slice none 0 0], .int .i64 0]) (by simp [results, Tryz.results90, go_sem, *]) rfl ?_
    have hz := HB2.out.size
    exact ⟨rfl, by exact belC HB2.out⟩
set_option maxRecDepth 100000 in
set_option maxHeartbeats 4000000 in
theorem inoTruncate_any (w : World) (b : Nat) (S : Nat → Prop) (s : TabS) (h : TabAt w b S s) (i n : Int) (hok : (s.at i).ok) :
    Calls Tryz.prog 57 #[.pointer (some ⟨b, 0, none⟩), .int .i64 i, .int .i64 n] w (TabPost w b S (s.cut i n)) := by
  have hf := inoFile_any w b S s h i
  have hct := fun W => extCut_nil W n
  have hkp := fun W y x0 x1 x2 x3 => inoKeep_any W b S s y { s.at i with size := n } false x0 x1 x2 x3
  obtain ⟨l0, l1, o0, o1⟩ := hok
  obtain ⟨r, hr⟩ : ∃ r, r = s.cut i n := ⟨_, rfl⟩
  rw [← hr]
  unfold TabS.cut at hr
  unfold fileOf at hf
  obtain ⟨⟨x0, x1, x2, x3, x4⟩, hx⟩ : ∃ x, x = s.at i := ⟨_, rfl⟩
  rw [← hx] at hf hr hkp l0 l1 o0 o1
  simp only [inV] at hkp l0 l1 o0 o1
  cases hh : s.has i
  · rw [hh] at hf hr
    rw [if_pos rfl] at hr hf
    subst hr
    simp only [inV, in0] at hf
    clear hx hkp hh l0 l1 o0 o1
    go_enter Tryz.func57, Tryz.ntmps57
    go_wp2_with fail
    refine hf.mono ?_
    clear hf
    rintro e W2 ⟨rfl, hB2⟩
    have hz := hB2.size
    have hT := h.below' hB2
    go_wp2_with fail
    go_ret
    exact ⟨rfl, hT.below' (by exact belC (Below.refl _ _)), Mod.of_below (by exact belC hB2)⟩
  rw [hh] at hf hr
  rw [if_neg (by simp)] at hr hf
  by_cases hk : x1 = 1
  · rw [if_pos hk] at hr hf
    subst hr
    simp only [inV, in0] at hf
    clear hx hkp hh l0 l1 o0 o1 hk
    go_enter Tryz.func57, Tryz.ntmps57
    go_wp2_with fail
    refine hf.mono ?_
    clear hf
    rintro e W2 ⟨rfl, hB2⟩
    have hz := hB2.size
    have hT := h.below' hB2
    go_wp2_with fail
    go_ret
    exact ⟨rfl, hT.below' (by exact belC (Below.refl _ _)), Mod.of_below (by exact belC hB2)⟩
  rw [if_neg hk] at hr hf
  simp only [inV] at hf
  by_cases hlo : n < 0
  · rw [if_pos (Or.inl hlo)] at hr
    subst hr
    clear hx hkp hh l0 l1 o0 o1 hk
    go_enter Tryz.func57, Tryz.ntmps57
    go_wp2_with fail
    refine hf.mono ?_
    clear hf
    rintro e W2 ⟨rfl, hB2⟩
    have hz := hB2.size
    have hT := h.below' hB2
    go_wp2_with fail
    go_ret
    exact ⟨rfl, hT.below' (by exact belC (Below.refl _ _)), Mod.of_below (by exact belC hB2)⟩
  by_cases hhi : 8192 < n
  · rw [if_pos (Or.inr hhi)] at hr
    subst hr
    clear hx hkp hh l0 l1 o0 o1 hk
    go_enter Tryz.func57, Tryz.ntmps57
    go_wp2_with fail
    refine hf.mono ?_
    clear hf
    rintro e W2 ⟨rfl, hB2⟩
    have hz := hB2.size
    have hT := h.below' hB2
    go_wp2_with fail
    go_ret
    exact ⟨rfl, hT.below' (by exact belC (Below.refl _ _)), Mod.of_below (by exact belC hB2)⟩
  rw [if_neg (fun h => h.elim hlo hhi)] at hr
  subst hr
  have hkp2 := fun W y => hkp W y l0 (by omega) o0 (by omega)
  clear hx hkp hh hk
  go_enter Tryz.func57, Tryz.ntmps57
  go_wp2_with fail
  refine hf.mono ?_
  clear hf
  rintro e W2 ⟨rfl, hB2⟩
  have hz := hB2.size
  have hT := Lib.hid (h.below' hB2)
  have HB2 := Lib.hid hB2
  clear hB2
  go_wp2_with fail
  refine (hct _).mono ?_
  clear hct
  rintro e W3 ⟨rfl, rfl⟩
  go_wp2_with fail
  have hT3 := hT.out.below' (w' := W2.alloc (.cells #[.int .i64 x0, .int .i64 x1, .int .i64 x2, .int .i64 x3, .int .i64 n, .slice none 0 0] 85)) (by exact belC (Below.refl _ _))
  have hM3 : Mod S w (W2.alloc (.cells #[.int .i64 x0, .int .i64 x1, .int .i64 x2, .int .i64 x3, .int .i64 n, .slice none 0 0] 85)) := Mod.of_below (by exact belC HB2.out)
  have HM3 := Lib.hid hM3
  refine (hkp2 _ hT3).mono ?_
  clear hkp2 hT3 hM3
  rintro e W4 ⟨rfl, hT4, hM4⟩
  go_wp2_with fail
  go_ret
  exact ⟨rfl, hT4, HM3.out.trans hM4⟩
end Go.Proofs.YtakbalmbkokklaaGreat
