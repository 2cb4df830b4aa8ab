/- package inode: Parts -/
import Derived.Test.YtpfcomepecgcmaaGreatDoorPkTrg
namespace Go.Proofs.YtpfcomepecgcmaaGreatDoor
open Go.RowKit Esch Go.Shelf

set_option linter.unusedSimpArgs false
/-- parts in memory of their own, or none -/
def PtsPost (w : World) (l : List PtS) (e : Ending) (w' : World) : Prop := ∃ a c, e = .returned (.slice a l.length c) ∧ PtsAt w' (fun k => w.heap.size ≤ k ∧ k < w'.heap.size) a l ∧ l.length ≤ c ∧ c ≤ 9223372036854775807 ∧ (l.length = 0 → a = none → c = 0) ∧ Below w.heap.size w w'
set_option maxRecDepth 100000 in
set_option maxHeartbeats 2000000 in
theorem ptClone_any (w : World) (S : Nat → Prop) (a : Option Addr) (c : Nat) (l : List PtS) (h : PtsAt w S a l) (hn : l.length = 0 → a = none → c = 0) (hl : l.length ≤ 100000) :
    Calls Tryz.prog 61 #[.slice a l.length c] w (PtsPost w l) := by
  have q22 : ∀ (w : World) (a : Option Addr) (n c n' c' : Nat), (binOp .eql 93 (.slice a n c) (.slice none n' c')).run Tryz.prog w = .ok (.bool a.isNone) w := fun w a n c n' c' => Lib.run_eql_slice_nil w _ _ a n c n' c' Tryz.underlying93
  obtain ⟨j0, hi, hy0, hy1, hy2⟩ := info_parts Tryz.infoPart
  cases a with
  | none =>
    have h0 : l.length = 0 := by
      cases l with
      | nil => rfl
      | cons x l =>
        obtain ⟨b, o, e, -⟩ := h.at' (by simp)
        cases e
    obtain rfl : l = [] := List.length_eq_zero_iff.1 h0
    go_enter Tryz.func61, Tryz.ntmps61
    go_wp2_with fail
    go_ret
    exact ⟨none, 0, rfl, RwAt.nil _ _ _ _, Nat.le_refl _, by decide, fun _ _ => rfl, Below.refl _ _⟩
  | some ad =>
    have HX := Lib.hid h
    have HL := Lib.hid hl
    clear h hn hl
    go_enter Tryz.func61, Tryz.ntmps61
    go_wp2_with (at_builtin; refine wpList_append_g (by rfl) (.tmp 5) (.tmp 6) 93 93 (by rfl) 97 j0 _ 32 Tryz.underlying93 hi hy0 hy1 hy2 (by rfl) (by rfl) (GRowAt.nil _ none' 4 _) _ l.length (l.flatMap ptC) (by rfl) ((HX.out.below' (w' := w.alloc (.cells #[] 97)) (by exact belC (Below.refl _ _))).src Tryz.underlying93 (ptC_one l) c (fun _ h => by cases h)) (by have := HL.out; omega) (by have := HL.out; omega) ?_; intro a6 cap6 w6 hg6 hM6 hz6)
    simp only [Nat.zero_add, List.nil_append] at hg6
    have hB : Below w.heap.size w w6 := (show Below w.heap.size w (w.alloc (.cells #[] 97)) by exact belC (Below.refl _ _)).trans (hM6.below_at (by simp) (fun k hk h => h.elim))
    have HG := Lib.hid hg6
    have HB := Lib.hid hB
    clear hg6 hM6 hz6 hB
    go_wp2_with fail
    go_ret
    refine ⟨a6, cap6, rfl, HG.out.row.sub (fun k hk h => ⟨?_, hk⟩), HG.out.le, HG.out.max, fun h0 e => ?_, HB.out⟩
    · rcases h with h | h
      · exact h.elim
      · rw [h]; simp
    · by_cases hc : 0 < cap6
      · obtain ⟨b, o, e2, -⟩ := HG.out.at' hc
        rw [e] at e2; cases e2
      · omega
end Go.Proofs.YtpfcomepecgcmaaGreatDoor
