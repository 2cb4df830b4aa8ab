/- package tree: Rename, from outside -/
import Derived.Test.YtakbalmbkokklaaGreatTree9
namespace Go.Proofs.YtakbalmbkokklaaGreat
open Go.RowKit Esch Go.Shelf

set_option maxRecDepth 100000 in
set_option maxHeartbeats 2000000 in
theorem trRename_any (w : World) (b : Nat) (S : Nat → Prop) (s : TrS) (h : TreeAt w b S s) (hok : s.ok) (p q : Nm) :
    Calls Tryz.prog 32 #[.pointer (some ⟨b, 0, none⟩), .string (bs p), .string (bs q)] w (ErrPost w b S ((s.rename p q).run s)) := by
  have hmf : ∀ (fn : Fn) (first cap : Array Value) (w : World), (Instr.makeFunc fn first cap).run Tryz.prog w = .ok (.func fn first cap) w := fun _ _ _ _ => rfl
  obtain ⟨W1, hW1⟩ : ∃ W1, W1 = ((w.alloc (.cells #[.pointer (some ⟨b, 0, none⟩)] 23)).alloc (.cells #[.string (bs p)] 9)).alloc (.cells #[.string (bs q)] 9) := ⟨_, rfl⟩
  have hB1 : Below w.heap.size w W1 := by rw [hW1]; exact belC (Below.refl _ _)
  have hz1 : W1.heap.size = w.heap.size + 3 := by rw [hW1]; simp
  have hns : ∀ k, w.heap.size ≤ k → ¬ S k := fun k hk hs => by have := h.lt k hs; omega
  have hs1 : ¬ S W1.heap.size := hns _ (by omega)
  have hBe : Below w.heap.size w (W1.alloc (.cells #[.int .i64 0] 27)) := by exact belC hB1
  have hdo := rename1_any (W1.alloc (.cells #[.int .i64 0] 27)) b w.heap.size (w.heap.size + 1) (w.heap.size + 2) S s (h.below' hBe) hok p q (by rw [hW1]; go_simp) (by rw [hW1]; go_simp) (by rw [hW1]; go_simp) (hns _ (by omega)) (hns _ (by omega)) (hns _ (by omega))
  have HM1 := Lib.hid (Mod.of_below (F := S) hB1)
  have HW1 := Lib.hid hW1
  obtain ⟨r, hr⟩ : ∃ r, r = (s.rename p q).run s := ⟨_, rfl⟩
  rw [← hr] at hdo ⊢
  clear hr hB1 hW1 hBe h hz1 hns hok
  go_enter Tryz.func32, Tryz.ntmps32
  go_wp2_with fail
  rw [← HW1.out]
  refine (tries_tree W1 b 71 _ S r hs1 (enters_of Tryz.func71 (by kernel_rfl) rfl) hdo).mono ?_
  clear hdo
  rintro e W2 ⟨rfl, hT2, hM2⟩
  go_wp2_with fail
  go_ret
  exact ⟨rfl, hT2, HM1.out.trans hM2⟩
end Go.Proofs.YtakbalmbkokklaaGreat
