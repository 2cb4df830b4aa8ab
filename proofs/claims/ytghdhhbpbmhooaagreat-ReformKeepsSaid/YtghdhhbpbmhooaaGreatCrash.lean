/- a unit of a hand's nodes goes down -/
import Derived.Test.YtghdhhbpbmhooaaGreatPkFet2
namespace Go.Proofs.YtghdhhbpbmhooaaGreat
open Go.RowKit Esch

theorem ucrash_any (w : World) (u pb mb : Nat) (s : UnS) (h : UnitAt w u pb mb s) : Calls Tryz.prog 43 #[.pointer (some ⟨u, 0, none⟩)] w fun e w' => e = .returned (.tuple #[]) ∧ UnitAt w' u pb mb { s with down := true } ∧ Mod (· = u) w w' := by
  have c0 := h.c0
  have c1 := h.c1
  have c2 := h.c2
  have f2 := h.f2
  have f1 := h.f1
  have hl := cell_lt h.c0
  have H := Lib.hid h
  clear h
  go_enter Tryz.func43, Tryz.ntmps43
  go_wp2_with fail
  go_end0
  have hM : Mod (· = u) w (w.setCell ⟨u, 2, none⟩ (.bool true)) := by exact modC (Mod.refl _ _)
  exact ⟨rfl, ⟨by go_simp, by go_simp, by go_simp, by go_simp, by go_simp, H.out.pages.mod hM (fun e => H.out.ne1 e.symm) (fun e => H.out.ne2 e.symm), H.out.ne1, H.out.ne2⟩, hM⟩
abbrev crashN (n : NdS) (i : Nat) : NdS := { n with units := fun j => if j = i then { n.units i with down := true } else n.units j }
/-- how a unit of the nodes is let down -/
structure CrR (w0 w : World) (c hb : Nat) (V : Nat → Prop) (hd : HdS) (i : Nat) : Prop where
  at' : ∃ nb ub, V ub ∧ (∀ W, Mod none' w W → Calls Tryz.prog 27 #[.pointer (some ⟨hb, 0, none⟩)] W fun e w' => e = .returned (.pointer (some ⟨nb, 0, none⟩)) ∧ w' = W) ∧
    (∀ W, Mod none' w W → Calls Tryz.prog 42 #[.pointer (some ⟨nb, 0, none⟩), .int .i64 i] W fun e w' => e = .returned (.pointer (some ⟨ub, 0, none⟩)) ∧ Mod none' W w') ∧
    ∀ W, Mod none' w W → Calls Tryz.prog 43 #[.pointer (some ⟨ub, 0, none⟩)] W fun e w' => e = .returned (.tuple #[]) ∧ Hd1 w0 c hb V { hd with nd := crashN hd.nd i } w' ∧ Mod (· = ub) W w'
theorem Hd1.crash {w0 w : World} {c hb : Nat} {V : Nat → Prop} {hd : HdS} (h : Hd1 w0 c hb V hd w) {i : Nat} (hi : i < 16) : CrR w0 w c hb V hd i := by
  obtain ⟨⟨U, T, hH, hT, hv⟩, hl, ho, hB⟩ := h
  obtain ⟨⟨nb, Un, Vv, C, ao, cap, es, hI, h1, h2, h3⟩, hlt⟩ := hH
  obtain ⟨⟨g, cap', ob, lb, lm, ub, pb, mb, D, hN, hU⟩, hnl⟩ := hI.nd
  have hui := cell_lt (hN.unit i hi).1.c0
  have hUu : Un (ub i) := hU (ub i) hui (by rw [(hN.du i hi).1]; omega)
  refine ⟨⟨nb, ub i, hv _ (h1 _ hUu), fun W hM => handNodes_at (hM.at hI.c0 id), fun W hM => rpcUnit_in (hN.mod hM (fun _ _ _ => id)) i hi, fun W hM => ?_⟩⟩
  have hNW := hN.mod hM (fun _ _ _ => id)
  refine (ucrash_any W (ub i) (pb i) (mb i) (hd.nd.units i) (hNW.unit i hi).1).mono ?_
  rintro e w' ⟨rfl, hu, hMu⟩
  have hMw : Mod (· = ub i) w w' := (mod_none hM).trans hMu
  have hz := hMw.size
  have hN' : NodesAt w' nb g cap' ob lb lm T ub pb mb D (crashN hd.nd i) := hNW.setUnit hi hu (hN.unit i hi).2 (hMu.mono fun k _ e => Or.inl e)
  have hn : Nd w' nb Un T (crashN hd.nd i) := ⟨⟨g, cap', ob, lb, lm, ub, pb, mb, fun k => if k < w.heap.size then D k else 99, by
    refine (hN.relabel (D' := fun k => if k < w.heap.size then D k else 99) (fun k hk => if_pos hk)).mod hM (fun _ _ _ => id) |>.setUnit hi hu (hN.unit i hi).2 (hMu.mono fun k _ e => Or.inl e), fun k hk hd => by
    by_cases e : k < w.heap.size
    · simp only [if_pos e] at hd; exact hU k e hd
    · simp only [if_neg e] at hd; omega⟩, fun k hk => Nat.lt_of_lt_of_le (hnl k hk) hz⟩
  have hA : HandAt w' hb U T { hd with nd := crashN hd.nd i } := by
    have hM' : Mod Un w w' := hMw.mono fun k _ e => by have e : k = ub i := e; subst e; exact hUu
    refine ⟨⟨nb, Un, fun k => Vv k ∧ k < w.heap.size, fun k => C k ∧ k < w.heap.size, ao, cap, es, ⟨hM'.at hI.c0 hI.hu, hM'.at hI.c1 hI.hu, (hM'.frozen (p := ⟨hb, 1, none⟩) (cell_lt hI.c0) hI.hu).trans hI.f1, hn, (hI.row.sub (fun k hk hv => ⟨hv, hk⟩)).mod hM' (fun k hk _ => hI.apart k hk.2 hk.1), hI.held, fun e he => ?_, fun k _ hk => hI.apart k hk.2 hk.1, fun k _ hk => hI.apartC k hk.2 hk.1, fun k _ hk e => hI.apartV k hk.2 hk.1 e.1, hI.hu, fun e => hI.hv e.1, fun e => hI.hc e.1, hI.most⟩, h1, fun k _ hk => hk.elim (fun hk => h2 k hk.2 (Or.inl hk.1)) (fun hk => h2 k hk.2 (Or.inr hk.1)), h3⟩, fun k hk => Nat.lt_of_lt_of_le (hlt k hk) hz⟩
    obtain ⟨g1, g2, g3⟩ := hI.each e he
    exact ⟨(g1.sub (fun k hk hv => ⟨hv, hk⟩)).mod hM' (fun k hk _ => hI.apartC k hk.2 hk.1), g2, g3⟩
  exact ⟨rfl, ⟨⟨U, T, hA, hT, hv⟩, fun k hk => Nat.lt_of_lt_of_le (hl k hk) hz, ho, hB.trans (hMw.below_at hB.size (fun k hk e => by have e : k = ub i := e; have := ho _ (hv _ (h1 _ hUu)); omega))⟩, hMu⟩
end Go.Proofs.YtghdhhbpbmhooaaGreat
