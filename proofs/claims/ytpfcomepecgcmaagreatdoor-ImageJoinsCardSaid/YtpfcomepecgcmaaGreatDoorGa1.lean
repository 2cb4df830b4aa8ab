/- package image: Gather of a made one -/
import Derived.Test.YtpfcomepecgcmaaGreatDoorPkOpA
import Derived.Test.YtpfcomepecgcmaaGreatDoorRKnown
namespace Esch
open Go Go.RowKit
/-- pieces that are put together: plainly -/
structure GaS where
  s : ByteArray
  client : Int
  size : Int
def ga0 : GaS := ⟨⟨#[]⟩, 0, 0⟩
structure GaAt (w : World) (b : Nat) (g : GaS) : Prop where
  c0 : w.cell? ⟨b, 0, none⟩ = some (.string g.s)
  c1 : w.cell? ⟨b, 1, none⟩ = some (.int .i64 g.client)
  c2 : w.cell? ⟨b, 2, none⟩ = some (.int .i64 g.size)
  f0 : w.frozen? ⟨b, 0, none⟩ = false
  f1 : w.frozen? ⟨b, 1, none⟩ = false
  f2 : w.frozen? ⟨b, 2, none⟩ = false
  few : g.s.size ≤ 65536
theorem GaAt.mod {F : Nat → Prop} {w w' : World} {b : Nat} {g : GaS} (h : GaAt w b g) (hM : Mod F w w') (hb : ¬ F b) : GaAt w' b g :=
  have hl := cell_lt h.c0
  ⟨hM.at h.c0 hb, hM.at h.c1 hb, hM.at h.c2 hb, (hM.frozen (p := ⟨b, 0, none⟩) hl hb).trans h.f0, (hM.frozen (p := ⟨b, 1, none⟩) hl hb).trans h.f1, (hM.frozen (p := ⟨b, 2, none⟩) hl hb).trans h.f2, h.few⟩
theorem GaAt.below' {w w' : World} {b : Nat} {g : GaS} (h : GaAt w b g) (hB : Below w.heap.size w w') : GaAt w' b g := h.mod (F := none') (Mod.of_below hB) id
/-- refused? -/
def GaS.no (g : GaS) (x : OpS) (mv : List Mv) : Prop := x.kind ≠ 14 ∨ x.good mv = false ∨ x.off ≠ g.s.size ∨ (0 < g.size ∧ ((g.s.size : Int) = g.size ∨ x.client ≠ g.client ∨ x.size ≠ g.size))
def GaS.put (g : GaS) (x : OpS) : GaS := ⟨g.s ++ x.data, x.client, x.size⟩
def GaS.text (g : GaS) : ByteArray × Bool := if g.size = 0 ∨ (g.s.size : Int) < g.size then (⟨#[]⟩, false) else (g.s, true)
end Esch
namespace Go.Proofs.YtpfcomepecgcmaaGreatDoor
open Go.RowKit Esch Go.Shelf

theorem gaNew_any (w : World) : Calls Tryz.prog 9 #[] w fun e w' => e = .returned (.pointer (some ⟨w.heap.size, 0, none⟩)) ∧ GaAt w' w.heap.size ga0 ∧ Below w.heap.size w w' := by
  go_enter Tryz.func9, Tryz.ntmps9
  go_wp2_with fail
  go_ret
  exact ⟨rfl, ⟨by go_simp; rfl, by go_simp; rfl, by go_simp; rfl, by go_simp, by go_simp, by go_simp, by decide⟩, by exact belC (Below.refl _ _)⟩
def GaTextPost (g : GaS) (w : World) (e : Ending) (w' : World) : Prop := e = .returned (.tuple #[.string g.text.1, .bool g.text.2]) ∧ Below w.heap.size w w'
set_option maxRecDepth 100000 in
set_option maxHeartbeats 4000000 in
theorem gaText_any (w : World) (b : Nat) (g : GaS) (h : GaAt w b g) : Calls Tryz.prog 13 #[.pointer (some ⟨b, 0, none⟩)] w (GaTextPost g w) := by
  obtain ⟨c0, c1, c2, -, -, -, -⟩ := h
  obtain ⟨s, gc, z⟩ := g
  simp only [] at c0 c1 c2
  clear c1
  unfold GaTextPost GaS.text
  simp only
  by_cases h0 : z = 0
  · rw [if_pos (Or.inl h0)]
    subst h0
    go_enter Tryz.func13, Tryz.ntmps13
    go_wp2_with fail
    refine region_kwalk (S := fun W => (W.cell? ⟨b, 0, none⟩ = some (.string s) ∧ W.cell? ⟨b, 2, none⟩ = some (.int .i64 0)) ∧ Below w.heap.size w W) (by kernel_rfl) (by kernel_rfl) (by kernel_rfl) ⟨⟨c0, c2⟩, (Below.refl _ _).drew⟩ ?_
    repeat (first | refine kwL ?_ | refine kwU ?_)
    refine kw_nil (fun W hW => ?_)
    obtain ⟨⟨d0, d2⟩, hB⟩ := hW
    have HB := Lib.hid hB
    clear hB
    go_wp2_with fail
    go_ret2
    exact ⟨rfl, HB.out⟩
  · have q0 : (z == 0) = false := by simpa using h0
    by_cases h1 : (s.size : Int) < z
    · rw [if_pos (Or.inr h1)]
      go_enter Tryz.func13, Tryz.ntmps13
      go_wp2_with fail
      refine region_kwalk (S := fun W => (W.cell? ⟨b, 0, none⟩ = some (.string s) ∧ W.cell? ⟨b, 2, none⟩ = some (.int .i64 z)) ∧ Below w.heap.size w W) (by kernel_rfl) (by kernel_rfl) (by kernel_rfl) ⟨⟨c0, c2⟩, (Below.refl _ _).drew⟩ ?_
      repeat (first | refine kwL ?_ | refine kwU ?_)
      refine kw_nil (fun W hW => ?_)
      obtain ⟨⟨d0, d2⟩, hB⟩ := hW
      have HB := Lib.hid hB
      clear hB
      go_wp2_with fail
      go_ret2
      exact ⟨rfl, HB.out⟩
    · rw [if_neg (fun e => e.elim h0 h1)]
      have q1 : decide ((s.size : Int) < z) = false := by simpa using h1
      go_enter Tryz.func13, Tryz.ntmps13
      go_wp2_with fail
      refine region_kwalk (S := fun W => (W.cell? ⟨b, 0, none⟩ = some (.string s) ∧ W.cell? ⟨b, 2, none⟩ = some (.int .i64 z)) ∧ Below w.heap.size w W) (by kernel_rfl) (by kernel_rfl) (by kernel_rfl) ⟨⟨c0, c2⟩, (Below.refl _ _).drew⟩ ?_
      repeat (first | refine kwL ?_ | refine kwU ?_)
      refine kw_nil (fun W hW => ?_)
      obtain ⟨⟨d0, d2⟩, hB⟩ := hW
      have HB := Lib.hid hB
      clear hB
      go_wp2_with fail
      go_ret2
      exact ⟨rfl, HB.out⟩
end Go.Proofs.YtpfcomepecgcmaaGreatDoor
