/- package inode: Parts -/
import Derived.Test.YtpjkimdmbgkpcaaGreatDoorPkTrg
namespace Go.Proofs.YtpjkimdmbgkpcaaGreatDoor
open Go.RowKit Esch Go.Shelf

set_option linter.unusedSimpArgs false
/-- parts in memory of their own, or none -/
def PtsPost (w : World) (l : List PtS) (e : Ending) (w' : World) : Prop := ∃ a c, e = .returned (.slice a l.length c) ∧ PtsAt w' (fun k => w.heap.size ≤ k ∧ k < w'.heap.size) a l ∧ l.length ≤ c ∧ c ≤ 9223372036854775807 ∧ (l.length = 0 → a = none → c = 0) ∧ Below w.heap.size w w'
set_option maxRecDepth 100000 in
set_option maxHeartbeats 2000000 in
theorem ptClone_any (w : World) (S : Nat → Prop) (a : Option Addr) (c : Nat) (l : List PtS) (h : PtsAt w S a l) (hn : l.length = 0 → a = none → c = 0) (hl : l.length ≤ 100000) :
    Calls Tryz.prog 67 #[.slice a l.length c] w (PtsPost w l) := by
  have q22 : ∀ (w : World) (a : Option Addr) (n c n' c' : Nat), (binOp .eql 62 (.slice a n c) (.slice none n' c')).run Tryz.prog w = .ok (.bool a.isNone) w := fun w a n c n' c' => Lib.run_eql_slice_nil w _ _ a n c n' c' Tryz.underlying62
  obtain ⟨j0, hi, hy0, hy1, hy2⟩ := info_parts Tryz.infoPart
  cases a with
  | none =>
    have h0 : l.length = 0 := by
      cases l with
      | nil => rfl
      | cons x l =>
        obtain ⟨b, o, e, -⟩ := h.at' (by simp)
        cases e
    obtain rfl : l = [] := List.length_eq_zero_iff.1 h0
    go_enter Tryz.func67, Tryz.ntmps67
    go_wp2_with fail
    go_ret
    exact ⟨none, 0, rfl, RwAt.nil _ _ _ _, Nat.le_refl _, by decide, fun _ _ => rfl, Below.refl _ _⟩
  | some ad =>
    have HX := Lib.hid h
    have HL := Lib.hid hl
    clear h hn hl
    go_enter Tryz.func67, Tryz.ntmps67
    go_wp2_with (at_builtin; refine wpList_append_g (by rfl) (.tmp 5) (.tmp 6) 62 62 (by rfl) 65 j0 _ 32 Tryz.underlying62 hi hy0 hy1 hy2 (by rfl) (by rfl) (GRowAt.nil _ none' 4 _) _ l.length (l.flatMap ptC) (by rfl) ((HX.out.below' (w' := w.alloc (.cells #[] 65)) (by exact belC (Below.refl _ _))).src Tryz.underlying62 (ptC_one l) c (fun _ h => by cases h)) (by have := HL.out; omega) (by have := HL.out; omega) ?_; intro a6 cap6 w6 hg6 hM6 hz6)
    simp only [Nat.zero_add, List.nil_append] at hg6
    have hB : Below w.heap.size w w6 := (show Below w.heap.size w (w.alloc (.cells #[] 65)) by exact belC (Below.refl _ _)).trans (hM6.below_at (by simp) (fun k hk h => h.elim))
    have HG := Lib.hid hg6
    have HB := Lib.hid hB
    clear hg6 hM6 hz6 hB
    go_wp2_with fail
    go_ret
    refine ⟨a6, cap6, rfl, HG.out.row.sub (fun k hk h => ⟨?_, hk⟩), HG.out.le, HG.out.max, fun h0 e => ?_, HB.out⟩
    · rcases h with h | h
      · exact h.elim
      · rw [h]; simp
    · by_cases hc : 0 < cap6
      · obtain ⟨b, o, e2, -⟩ := HG.out.at' hc
        rw [e] at e2; cases e2
      · omega
set_option maxRecDepth 100000 in
set_option maxHeartbeats 2000000 in
theorem inoParts_any (w : World) (b : Nat) (S : Nat → Prop) (s : TabS) (h : TabAt w b S s) (i : Int) :
    Calls Tryz.prog 23 #[.pointer (some ⟨b, 0, none⟩), .int .i64 i] w (PtsPost w (s.at i).ps) := by
  have hg := inoGet_any w b S s h i
  obtain ⟨x, hx⟩ : ∃ x, x = s.at i := ⟨_, rfl⟩
  rw [← hx] at hg ⊢
  clear hx h
  go_enter Tryz.func23, Tryz.ntmps23
  go_wp2_with fail
  refine hg.mono ?_
  clear hg
  rintro e w1 ⟨⟨y0, y1, y2, y3, y4, pa, pc, lp⟩, hcv, rfl, hP, hB1⟩
  simp only [InC.val] at hcv
  subst hcv
  simp only [inCV]
  obtain ⟨w2, hw2⟩ : ∃ w2, w2 = w1.alloc (.cells #[.int .i64 y0, .int .i64 y1, .int .i64 y2, .int .i64 y3, .int .i64 y4, .slice pa lp.length pc] 110) := ⟨_, rfl⟩
  have hB2 : Below w1.heap.size w1 w2 := by rw [hw2]; exact belC (Below.refl _ _)
  have hcl := ptClone_any w2 _ pa pc lp (hP.row.below' hB2) (fun _ e => hP.nil e) hP.few
  have HB2 := Lib.hid (hB1.trans (hB2.mono hB1.size))
  have HW2 := Lib.hid hw2
  clear hP hB1 hB2 hw2
  go_wp2_with fail
  rw [← HW2.out]
  refine hcl.mono ?_
  clear hcl
  rintro e w3 ⟨a3, c3, rfl, hr, hc1, hc2, hc3, hB3⟩
  have hz := HB2.out.size
  have HR := Lib.hid (hr.sub (T := fun k => w.heap.size ≤ k ∧ k < w3.heap.size) (fun k _ hk => ⟨Nat.le_trans hz hk.1, hk.2⟩))
  clear hr
  go_wp2_with fail
  go_ret
  exact ⟨a3, c3, rfl, HR.out, hc1, hc2, hc3, HB2.out.trans (hB3.mono hz)⟩
end Go.Proofs.YtpjkimdmbgkpcaaGreatDoor
