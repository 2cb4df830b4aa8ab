/- pages: their edge -/
import Derived.Test.YtnojjohkpkmliaaGreatPkPage
namespace Go.Proofs.YtnojjohkpkmliaaGreat
open Go.RowKit Esch

set_option maxHeartbeats 1000000 in
theorem pedge_any (w : World) (b mb : Nat) (s : PgS) (h : PagesAt w b mb s) :
    Calls Tryz.prog 50 #[.pointer (some ⟨b, 0, none⟩)] w fun e w' => e = .returned (.int .i64 s.edge) ∧ Mod none' w w' := by
  obtain ⟨c0, c1, c2, f2, -, hne⟩ := h
  go_enter Tryz.func50, Tryz.ntmps50
  go_wp2_with fail
  go_ret
  exact ⟨rfl, by (repeat' (first | (with_reducible exact (Mod.refl _ _)) | (with_reducible apply Mod.drew) | (with_reducible apply Mod.drewN) | (with_reducible apply Mod.alloc) | (with_reducible apply Mod.setCellAt) | (intro _; first | rfl | exact Or.inl rfl | exact Or.inr rfl) | (intro h; exfalso; omega)))⟩
end Go.Proofs.YtnojjohkpkmliaaGreat
