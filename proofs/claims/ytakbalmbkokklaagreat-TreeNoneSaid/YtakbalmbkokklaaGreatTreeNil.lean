/- package tree: a tree that nobody made -/
import Derived.Test.YtakbalmbkokklaaGreatTries
namespace Go.Proofs.YtakbalmbkokklaaGreat
open Go.RowKit Esch

theorem below_chain {w W w2 : World} (h0 : Below w.heap.size w W) (h : Below W.heap.size W w2) : Below w.heap.size w w2 := h0.trans (h.mono h0.size)
def NilPost (w : World) (v : Value) (e : Ending) (w' : World) : Prop := e = .returned v ∧ Below w.heap.size w w'
theorem rmdir_nil (w : World) (p : Nm) : Calls Tryz.prog 15 #[.pointer none, .string (bs p)] w (NilPost w (.int .i64 1)) := by
  have hmf : ∀ (fn : Fn) (first cap : Array Value) (w : World), (Instr.makeFunc fn first cap).run Tryz.prog w = .ok (.func fn first cap) w := fun _ _ _ _ => rfl
  go_enter Tryz.func15, Tryz.ntmps15
  go_wp2_with fail
  have htn := tries_nil
  refine (htn _ _).mono ?_
  rintro e w2 ⟨rfl, hB2⟩
  go_wp2_with fail
  go_ret
  exact ⟨rfl, below_chain (by exact belC (Below.refl _ _)) hB2⟩
theorem unlink_nil (w : World) (p : Nm) : Calls Tryz.prog 23 #[.pointer none, .string (bs p)] w (NilPost w (.int .i64 1)) := by
  have hmf : ∀ (fn : Fn) (first cap : Array Value) (w : World), (Instr.makeFunc fn first cap).run Tryz.prog w = .ok (.func fn first cap) w := fun _ _ _ _ => rfl
  go_enter Tryz.func23, Tryz.ntmps23
  go_wp2_with fail
  have htn := tries_nil
  refine (htn _ _).mono ?_
  rintro e w2 ⟨rfl, hB2⟩
  go_wp2_with fail
  go_ret
  exact ⟨rfl, below_chain (by exact belC (Below.refl _ _)) hB2⟩
theorem rename_nil (w : World) (p q : Nm) : Calls Tryz.prog 32 #[.pointer none, .string (bs p), .string (bs q)] w (NilPost w (.int .i64 1)) := by
  have hmf : ∀ (fn : Fn) (first cap : Array Value) (w : World), (Instr.makeFunc fn first cap).run Tryz.prog w = .ok (.func fn first cap) w := fun _ _ _ _ => rfl
  go_enter Tryz.func32, Tryz.ntmps32
  go_wp2_with fail
  have htn := tries_nil
  refine (htn _ _).mono ?_
  rintro e w2 ⟨rfl, hB2⟩
  go_wp2_with fail
  go_ret
  exact ⟨rfl, below_chain (by exact belC (Below.refl _ _)) hB2⟩
theorem link_nil (w : World) (p q : Nm) : Calls Tryz.prog 20 #[.pointer none, .string (bs p), .string (bs q)] w (NilPost w (.int .i64 1)) := by
  have hmf : ∀ (fn : Fn) (first cap : Array Value) (w : World), (Instr.makeFunc fn first cap).run Tryz.prog w = .ok (.func fn first cap) w := fun _ _ _ _ => rfl
  go_enter Tryz.func20, Tryz.ntmps20
  go_wp2_with fail
  have htn := tries_nil
  refine (htn _ _).mono ?_
  rintro e w2 ⟨rfl, hB2⟩
  go_wp2_with fail
  go_ret
  exact ⟨rfl, below_chain (by exact belC (Below.refl _ _)) hB2⟩
theorem truncate_nil (w : World) (p : Nm) (n : Int) : Calls Tryz.prog 22 #[.pointer none, .string (bs p), .int .i64 n] w (NilPost w (.int .i64 1)) := by
  have hmf : ∀ (fn : Fn) (first cap : Array Value) (w : World), (Instr.makeFunc fn first cap).run Tryz.prog w = .ok (.func fn first cap) w := fun _ _ _ _ => rfl
  go_enter Tryz.func22, Tryz.ntmps22
  go_wp2_with fail
  have htn := tries_nil
  refine (htn _ _).mono ?_
  rintro e w2 ⟨rfl, hB2⟩
  go_wp2_with fail
  go_ret
  exact ⟨rfl, below_chain (by exact belC (Below.refl _ _)) hB2⟩
theorem make_nil (w : World) (p : Nm) (k : Int) : Calls Tryz.prog 37 #[.pointer none, .string (bs p), .int .i64 k] w (NilPost w (.int .i64 1)) := by
  have hmf : ∀ (fn : Fn) (first cap : Array Value) (w : World), (Instr.makeFunc fn first cap).run Tryz.prog w = .ok (.func fn first cap) w := fun _ _ _ _ => rfl
  go_enter Tryz.func37, Tryz.ntmps37
  go_wp2_with fail
  have htn := tries_nil
  refine (htn _ _).mono ?_
  rintro e w2 ⟨rfl, hB2⟩
  go_wp2_with fail
  go_ret
  exact ⟨rfl, below_chain (by exact belC (Below.refl _ _)) hB2⟩
theorem mkdir_nil (w : World) (p : Nm) : Calls Tryz.prog 12 #[.pointer none, .string (bs p)] w (NilPost w (.int .i64 1)) := by
  go_enter Tryz.func12, Tryz.ntmps12
  go_wp2_with fail
  refine (make_nil _ _ _).mono ?_
  rintro e w2 ⟨rfl, hB2⟩
  go_wp2_with fail
  go_ret
  exact ⟨rfl, hB2⟩
theorem create_nil (w : World) (p : Nm) : Calls Tryz.prog 19 #[.pointer none, .string (bs p)] w (NilPost w (.int .i64 1)) := by
  go_enter Tryz.func19, Tryz.ntmps19
  go_wp2_with fail
  refine (make_nil _ _ _).mono ?_
  rintro e w2 ⟨rfl, hB2⟩
  go_wp2_with fail
  go_ret
  exact ⟨rfl, hB2⟩
theorem check_nil (w : World) : Calls Tryz.prog 18 #[.pointer none] w (NilPost w (.bool false)) := by
  go_enter Tryz.func18, Tryz.ntmps18
  go_wp2_with fail
  go_ret
  exact ⟨rfl, Below.refl _ _⟩
theorem inodes_nil (w : World) : Calls Tryz.prog 16 #[.pointer none] w (NilPost w (.pointer none)) := by
  go_enter Tryz.func16, Tryz.ntmps16
  go_wp2_with fail
  go_ret
  exact ⟨rfl, Below.refl _ _⟩
theorem names_nil (w : World) : Calls Tryz.prog 26 #[.pointer none] w (NilPost w (.pointer none)) := by
  go_enter Tryz.func26, Tryz.ntmps26
  go_wp2_with fail
  go_ret
  exact ⟨rfl, Below.refl _ _⟩
theorem find_nil (w : World) (p : Nm) : Calls Tryz.prog 29 #[.pointer none, .string (bs p)] w (NilPost w (.tuple #[.int .i64 0, .int .i64 1])) := by
  obtain ⟨W1, hW1⟩ : ∃ W1, W1 = ((w.alloc (.cells #[.pointer none] 23)).alloc (.cells #[.string (bs p)] 9)).alloc (.cells #[.int .i64 0] 3) := ⟨_, rfl⟩
  have hB1 : Below w.heap.size w W1 := by rw [hW1]; exact belC (Below.refl _ _)
  have c0 : W1.cell? ⟨w.heap.size + 2, 0, none⟩ = some (.int .i64 0) := by rw [hW1]; go_simp
  have HW1 := Lib.hid hW1
  clear hW1
  have hmf : ∀ (fn : Fn) (first cap : Array Value) (w : World), (Instr.makeFunc fn first cap).run Tryz.prog w = .ok (.func fn first cap) w := fun _ _ _ _ => rfl
  have htn := tries_nil
  go_enter Tryz.func29, Tryz.ntmps29
  go_wp2_with fail
  rw [← HW1.out]
  refine (htn _ _).mono ?_
  rintro e w2 ⟨rfl, hB2⟩
  have c2 := below_at hB2 c0 (cell_lt c0)
  go_wp2_with fail
  go_ret2
  exact ⟨rfl, below_chain hB1 hB2⟩
theorem list_nil (w : World) (p : Nm) : Calls Tryz.prog 13 #[.pointer none, .string (bs p)] w (NilPost w (.tuple #[.slice none 0 0, .int .i64 1])) := by
  obtain ⟨W1, hW1⟩ : ∃ W1, W1 = ((w.alloc (.cells #[.pointer none] 23)).alloc (.cells #[.string (bs p)] 9)).alloc (.cells #[.slice none 0 0] 22) := ⟨_, rfl⟩
  have hB1 : Below w.heap.size w W1 := by rw [hW1]; exact belC (Below.refl _ _)
  have c0 : W1.cell? ⟨w.heap.size + 2, 0, none⟩ = some (.slice none 0 0) := by rw [hW1]; go_simp
  have HW1 := Lib.hid hW1
  clear hW1
  have hmf : ∀ (fn : Fn) (first cap : Array Value) (w : World), (Instr.makeFunc fn first cap).run Tryz.prog w = .ok (.func fn first cap) w := fun _ _ _ _ => rfl
  have htn := tries_nil
  go_enter Tryz.func13, Tryz.ntmps13
  go_wp2_with fail
  rw [← HW1.out]
  refine (htn _ _).mono ?_
  rintro e w2 ⟨rfl, hB2⟩
  have c2 := below_at hB2 c0 (cell_lt c0)
  go_wp2_with fail
  go_ret2
  exact ⟨rfl, below_chain hB1 hB2⟩
theorem stat_nil (w : World) (p : Nm) : Calls Tryz.prog 14 #[.pointer none, .string (bs p)] w (NilPost w (.tuple #[.agg #[.int .i64 0, .int .i64 0, .int .i64 0, .int .i64 0], .int .i64 1])) := by
  obtain ⟨W1, hW1⟩ : ∃ W1, W1 = (((w.alloc (.cells #[.pointer none] 23)).alloc (.cells #[.string (bs p)] 9)).alloc (.cells #[.int .i64 0, .int .i64 0, .int .i64 0, .int .i64 0] 32)).alloc (.cells #[.int .i64 0, .int .i64 0, .int .i64 0, .int .i64 0] 32) := ⟨_, rfl⟩
  have hB1 : Below w.heap.size w W1 := by rw [hW1]; exact belC (Below.refl _ _)
  have c0 : ∀ j, j < 4 → W1.cell? ⟨w.heap.size + 2, j, none⟩ = some (.int .i64 0) ∧ W1.cell? ⟨w.heap.size + 3, j, none⟩ = some (.int .i64 0) ∧ W1.frozen? ⟨w.heap.size + 2, j, none⟩ = false := fun j hj => by
    rw [hW1]
    obtain rfl | rfl | rfl | rfl : j = 0 ∨ j = 1 ∨ j = 2 ∨ j = 3 := by omega
    all_goals exact ⟨by go_simp, by go_simp, by go_simp⟩
  have HW1 := Lib.hid hW1
  have HC := Lib.hid c0
  clear hW1 c0
  have hmf : ∀ (fn : Fn) (first cap : Array Value) (w : World), (Instr.makeFunc fn first cap).run Tryz.prog w = .ok (.func fn first cap) w := fun _ _ _ _ => rfl
  have htn := tries_nil
  go_enter Tryz.func14, Tryz.ntmps14
  go_wp2_with fail
  rw [← HW1.out]
  refine (htn _ _).mono ?_
  rintro e w2 ⟨rfl, hB2⟩
  have hF : ∀ j, j < 4 → w2.cell? ⟨w.heap.size + 2, j, none⟩ = some (.int .i64 0) ∧ w2.cell? ⟨w.heap.size + 3, j, none⟩ = some (.int .i64 0) ∧ w2.frozen? ⟨w.heap.size + 2, j, none⟩ = false := fun j hj => by
    obtain ⟨h1, h2, h3⟩ := HC.out j hj
    exact ⟨below_at hB2 h1 (cell_lt h1), below_at hB2 h2 (cell_lt h2), (hB2.frozen (p := ⟨w.heap.size + 2, j, none⟩) (cell_lt h1)).trans h3⟩
  obtain ⟨a0, b0, f0⟩ := hF 0 (by omega)
  obtain ⟨a1, b1, f1⟩ := hF 1 (by omega)
  obtain ⟨a2, b2, f2⟩ := hF 2 (by omega)
  obtain ⟨a3, b3, f3⟩ := hF 3 (by omega)
  have HBz := Lib.hid (below_chain hB1 hB2)
  have hlz := cell_lt a0
  clear hF hB1 hB2
  go_wp2_with fail
  refine bodyPost_ret (v := .tuple #[.agg #[.int .i64 0, .int .i64 0, .int .i64 0, .int .i64 0], .int .i64 1]) (by simp [results, Tryz.results14, go_sem, *]) rfl ?_
  exact ⟨rfl, by exact belC HBz.out⟩
end Go.Proofs.YtakbalmbkokklaaGreat
