import Derived.Test.YtpkdpmkiplopmaaNodes
/- all nodes together: which one is asked -/
namespace Go.Proofs.Ytpkdpmkiplopmaa
open Go.RowKit Esch

@[simp] theorem ta00 (v : Value) (w : World) : (Instr.typeAssert (.iface 51 v) 92 51 true).run Try.prog w = .ok (.tuple #[v, .bool true]) w := by kernel_rfl
@[simp] theorem ta01 (v : Value) (w : World) : (Instr.typeAssert (.iface 51 v) 92 53 true).run Try.prog w = .ok (.tuple #[.pointer none, .bool false]) w := by kernel_rfl
@[simp] theorem ta02 (v : Value) (w : World) : (Instr.typeAssert (.iface 51 v) 92 55 true).run Try.prog w = .ok (.tuple #[.pointer none, .bool false]) w := by kernel_rfl
@[simp] theorem tan0 (w : World) : (Instr.typeAssert .nilIface 92 51 true).run Try.prog w = .ok (.tuple #[.pointer none, .bool false]) w := by kernel_rfl
@[simp] theorem ta10 (v : Value) (w : World) : (Instr.typeAssert (.iface 53 v) 92 51 true).run Try.prog w = .ok (.tuple #[.pointer none, .bool false]) w := by kernel_rfl
@[simp] theorem ta11 (v : Value) (w : World) : (Instr.typeAssert (.iface 53 v) 92 53 true).run Try.prog w = .ok (.tuple #[v, .bool true]) w := by kernel_rfl
@[simp] theorem ta12 (v : Value) (w : World) : (Instr.typeAssert (.iface 53 v) 92 55 true).run Try.prog w = .ok (.tuple #[.pointer none, .bool false]) w := by kernel_rfl
@[simp] theorem tan1 (w : World) : (Instr.typeAssert .nilIface 92 53 true).run Try.prog w = .ok (.tuple #[.pointer none, .bool false]) w := by kernel_rfl
@[simp] theorem ta20 (v : Value) (w : World) : (Instr.typeAssert (.iface 55 v) 92 51 true).run Try.prog w = .ok (.tuple #[.pointer none, .bool false]) w := by kernel_rfl
@[simp] theorem ta21 (v : Value) (w : World) : (Instr.typeAssert (.iface 55 v) 92 53 true).run Try.prog w = .ok (.tuple #[.pointer none, .bool false]) w := by kernel_rfl
@[simp] theorem ta22 (v : Value) (w : World) : (Instr.typeAssert (.iface 55 v) 92 55 true).run Try.prog w = .ok (.tuple #[v, .bool true]) w := by kernel_rfl
@[simp] theorem tan2 (w : World) : (Instr.typeAssert .nilIface 92 55 true).run Try.prog w = .ok (.tuple #[.pointer none, .bool false]) w := by kernel_rfl
variable {w : World} {nb g cap ob lb lm T : Nat} {ub pb mb D : Nat → Nat} {s : NdS}
set_option maxHeartbeats 1000000 in
theorem rpcUnit_in (h : NodesAt w nb g cap ob lb lm T ub pb mb D s) (k : Nat) (hk : k < 16) : Calls Try.prog 31 #[.pointer (some ⟨nb, 0, none⟩), .int .i64 k] w fun e w' => e = .returned (.pointer (some ⟨ub k, 0, none⟩)) ∧ Mod none' w w' := by
  have c0 := h.c0
  have r := h.row k hk
  have k0 : (0 : Int) ≤ k := by omega
  have k1 : (k : Int) < 16 := by omega
  clear h
  go_enter Try.func31, Try.ntmps31
  go_wp2_with fail
  all_goals try go_quiet (fail)
  all_goals go_wp2_with fail
  go_ret
  exact ⟨rfl, by (repeat' (first | (with_reducible exact (Mod.refl _ _)) | (with_reducible apply Mod.drew) | (with_reducible apply Mod.drewN) | (with_reducible apply Mod.alloc) | (with_reducible apply Mod.setCellAt) | (intro _; first | rfl | exact Or.inl rfl | exact Or.inr rfl) | (intro h; exfalso; omega)))⟩
set_option maxHeartbeats 1000000 in
theorem rpcUnit_out (h : NodesAt w nb g cap ob lb lm T ub pb mb D s) (k : Int) (hk : k < 0 ∨ 16 ≤ k) : Calls Try.prog 31 #[.pointer (some ⟨nb, 0, none⟩), .int .i64 k] w fun e w' => e = .returned (.pointer none) ∧ Mod none' w w' := by
  have c0 := h.c0
  have hk' : k < 0 ∨ (0 ≤ k ∧ 16 ≤ k) := by omega
  clear h hk
  rcases hk' with hk | ⟨hk, hk2⟩
  all_goals
    go_enter Try.func31, Try.ntmps31
    go_wp2_with fail
    all_goals try go_quiet (fail)
    all_goals go_wp2_with fail
    go_ret
    exact ⟨rfl, by (repeat' (first | (with_reducible exact (Mod.refl _ _)) | (with_reducible apply Mod.drew) | (with_reducible apply Mod.drewN) | (with_reducible apply Mod.alloc) | (with_reducible apply Mod.setCellAt) | (intro _; first | rfl | exact Or.inl rfl | exact Or.inr rfl) | (intro h; exfalso; omega)))⟩
theorem rpcUnit_nil (w : World) (k : Int) : Calls Try.prog 31 #[.pointer none, .int .i64 k] w fun e w' => e = .returned (.pointer none) ∧ Mod none' w w' := by
  go_enter Try.func31, Try.ntmps31
  go_wp2_with fail
  all_goals try go_quiet (fail)
  all_goals go_wp2_with fail
  go_ret
  exact ⟨rfl, by (repeat' (first | (with_reducible exact (Mod.refl _ _)) | (with_reducible apply Mod.drew) | (with_reducible apply Mod.drewN) | (with_reducible apply Mod.alloc) | (with_reducible apply Mod.setCellAt) | (intro _; first | rfl | exact Or.inl rfl | exact Or.inr rfl) | (intro h; exfalso; omega)))⟩
theorem rpcOrder_any (h : NodesAt w nb g cap ob lb lm T ub pb mb D s) : Calls Try.prog 32 #[.pointer (some ⟨nb, 0, none⟩)] w fun e w' => e = .returned (.pointer (some ⟨ob, 0, none⟩)) ∧ w' = w := by
  have c1 := h.c1
  clear h
  go_enter Try.func32, Try.ntmps32
  go_wp2_with fail
  go_ret
  exact ⟨rfl, rfl⟩
theorem rpcOrder_nil (w : World) : Calls Try.prog 32 #[.pointer none] w fun e w' => e = .returned (.pointer none) ∧ w' = w := by
  go_enter Try.func32, Try.ntmps32
  go_wp2_with fail
  go_ret
  exact ⟨rfl, rfl⟩
theorem rpcLayout_any (h : NodesAt w nb g cap ob lb lm T ub pb mb D s) : Calls Try.prog 33 #[.pointer (some ⟨nb, 0, none⟩)] w fun e w' => e = .returned (.pointer (some ⟨lb, 0, none⟩)) ∧ w' = w := by
  have c2 := h.c2
  clear h
  go_enter Try.func33, Try.ntmps33
  go_wp2_with fail
  go_ret
  exact ⟨rfl, rfl⟩
theorem rpcLayout_nil (w : World) : Calls Try.prog 33 #[.pointer none] w fun e w' => e = .returned (.pointer none) ∧ w' = w := by
  go_enter Try.func33, Try.ntmps33
  go_wp2_with fail
  go_ret
  exact ⟨rfl, rfl⟩
section
variable (x1 x2 x3 x4 x5 x7 : Int) (d : ByteArray) (ca : Option Addr) (cn cc : Nat)
set_option maxRecDepth 100000 in
set_option maxHeartbeats 1000000 in
theorem asked_no (w : World) (nb : Nat) (k : Int) (hk : k < 1 ∨ 11 < k) : Calls Try.prog 60 #[.pointer (some ⟨nb, 0, none⟩), .agg #[.int .i64 k, .int .i64 x1, .int .i64 x2, .int .i64 x3, .int .i64 x4, .int .i64 x5, .string d, .int .i64 x7, .slice ca cn cc]] w
    fun e w' => e = .returned .nilIface ∧ Mod none' w w' := by
  go_enter Try.func60, Try.ntmps60
  go_wp2_with fail
  go_ret
  exact ⟨rfl, by (repeat' (first | (with_reducible exact (Mod.refl _ _)) | (with_reducible apply Mod.drew) | (with_reducible apply Mod.drewN) | (with_reducible apply Mod.alloc) | (with_reducible apply Mod.setCellAt) | (intro _; first | rfl | exact Or.inl rfl | exact Or.inr rfl) | (intro h; exfalso; omega)))⟩
set_option maxRecDepth 100000 in
set_option maxHeartbeats 1000000 in
theorem asked_unit (nv : Value) (v : Value) (hU : ∀ W, Mod none' w W → Calls Try.prog 31 #[nv, .int .i64 x1] W fun e w' => e = .returned v ∧ Mod none' W w') (k : Int) (hk : k = 1 ∨ k = 2 ∨ k = 3 ∨ k = 4 ∨ k = 5) :
    Calls Try.prog 60 #[nv, .agg #[.int .i64 k, .int .i64 x1, .int .i64 x2, .int .i64 x3, .int .i64 x4, .int .i64 x5, .string d, .int .i64 x7, .slice ca cn cc]] w
    fun e w' => e = .returned (.iface 51 v) ∧ Mod none' w w' := by
  rcases hk with rfl | rfl | rfl | rfl | rfl
  all_goals
    go_enter Try.func60, Try.ntmps60
    go_wp2_with fail
    refine (hU _ (by (repeat' (first | (with_reducible exact (Mod.refl _ _)) | (with_reducible apply Mod.drew) | (with_reducible apply Mod.drewN) | (with_reducible apply Mod.alloc) | (with_reducible apply Mod.setCellAt) | (intro _; first | rfl | exact Or.inl rfl | exact Or.inr rfl) | (intro h; exfalso; omega))))).mono ?_
    rintro e w1 ⟨rfl, hM1⟩
    go_wp2_with fail
    go_ret
    exact ⟨rfl, by (repeat' (first | (with_reducible exact (((Mod.refl _ _).alloc _).trans hM1)) | (with_reducible apply Mod.drew) | (with_reducible apply Mod.drewN) | (with_reducible apply Mod.alloc) | (with_reducible apply Mod.setCellAt) | (intro _; first | rfl | exact Or.inl rfl | exact Or.inr rfl) | (intro h; exfalso; omega)))⟩
set_option maxRecDepth 100000 in
set_option maxHeartbeats 1000000 in
theorem asked_ord (h : NodesAt w nb g cap ob lb lm T ub pb mb D s) (k : Int) (hk : k = 6 ∨ k = 7 ∨ k = 8) : Calls Try.prog 60 #[.pointer (some ⟨nb, 0, none⟩), .agg #[.int .i64 k, .int .i64 x1, .int .i64 x2, .int .i64 x3, .int .i64 x4, .int .i64 x5, .string d, .int .i64 x7, .slice ca cn cc]] w
    fun e w' => e = .returned (.iface 53 (.pointer (some ⟨ob, 0, none⟩))) ∧ Mod none' w w' := by
  have c1 := h.c1
  have hl := cell_lt h.c1
  clear h
  rcases hk with rfl | rfl | rfl
  all_goals
    go_enter Try.func60, Try.ntmps60
    go_wp2_with fail
    go_ret
    exact ⟨rfl, by (repeat' (first | (with_reducible exact (Mod.refl _ _)) | (with_reducible apply Mod.drew) | (with_reducible apply Mod.drewN) | (with_reducible apply Mod.alloc) | (with_reducible apply Mod.setCellAt) | (intro _; first | rfl | exact Or.inl rfl | exact Or.inr rfl) | (intro h; exfalso; omega)))⟩
set_option maxRecDepth 100000 in
set_option maxHeartbeats 1000000 in
theorem asked_lay (h : NodesAt w nb g cap ob lb lm T ub pb mb D s) (k : Int) (hk : k = 9 ∨ k = 10 ∨ k = 11) : Calls Try.prog 60 #[.pointer (some ⟨nb, 0, none⟩), .agg #[.int .i64 k, .int .i64 x1, .int .i64 x2, .int .i64 x3, .int .i64 x4, .int .i64 x5, .string d, .int .i64 x7, .slice ca cn cc]] w
    fun e w' => e = .returned (.iface 55 (.pointer (some ⟨lb, 0, none⟩))) ∧ Mod none' w w' := by
  have c2 := h.c2
  have hl := cell_lt h.c2
  clear h
  rcases hk with rfl | rfl | rfl
  all_goals
    go_enter Try.func60, Try.ntmps60
    go_wp2_with fail
    go_ret
    exact ⟨rfl, by (repeat' (first | (with_reducible exact (Mod.refl _ _)) | (with_reducible apply Mod.drew) | (with_reducible apply Mod.drewN) | (with_reducible apply Mod.alloc) | (with_reducible apply Mod.setCellAt) | (intro _; first | rfl | exact Or.inl rfl | exact Or.inr rfl) | (intro h; exfalso; omega)))⟩
set_option maxRecDepth 100000 in
set_option maxHeartbeats 1000000 in
theorem rpcDo_nil (w : World) (k : Int) : Calls Try.prog 30 #[.pointer none, .agg #[.int .i64 k, .int .i64 x1, .int .i64 x2, .int .i64 x3, .int .i64 x4, .int .i64 x5, .string d, .int .i64 x7, .slice ca cn cc]] w
    fun e w' => e = .returned (ansU 1 0 ⟨#[]⟩ 0) ∧ Below w.heap.size w w' := by
  go_enter Try.func30, Try.ntmps30
  go_wp2_with fail
  refine bodyPost_ret (v := ansU 1 0 ⟨#[]⟩ 0) (by simp only [results, Try.results30, ansU]; go_simp) rfl ?_
  exact ⟨rfl, by (repeat (first | with_reducible exact (Below.refl _ _) | with_reducible refine Below.drew ?_ | with_reducible refine Esch.below_drewN ?_ _ | with_reducible refine Below.setCell ?_ (by first | omega | (simp; done) | (simp; omega)) _ | with_reducible refine Below.alloc ?_ (by first | omega | (simp; done) | (simp; omega)) _))⟩
set_option maxRecDepth 100000 in
set_option maxHeartbeats 1000000 in
theorem rpcDo_no (w : World) (nb : Nat) (k : Int) (hk : k < 1 ∨ 11 < k) : Calls Try.prog 30 #[.pointer (some ⟨nb, 0, none⟩), .agg #[.int .i64 k, .int .i64 x1, .int .i64 x2, .int .i64 x3, .int .i64 x4, .int .i64 x5, .string d, .int .i64 x7, .slice ca cn cc]] w
    fun e w' => e = .returned (ansU 1 0 ⟨#[]⟩ 0) ∧ Below w.heap.size w w' := by
  have hak := fun W => asked_no x1 x2 x3 x4 x5 x7 d ca cn cc W nb k hk
  go_enter Try.func30, Try.ntmps30
  go_wp2_with fail
  refine (hak _).mono ?_
  rintro e w1 ⟨rfl, hM1⟩
  obtain ⟨g0, g1, g2, g3, g4, g5, g6, g7, f0, f1, f2, f3, f4, f5, f6, f7⟩ := (boxed2 w (.int .i64 k) (.int .i64 x1) (.int .i64 x2) (.int .i64 x3) (.int .i64 x4) (.int .i64 x5) (.string d) (.int .i64 x7) (.slice ca cn cc)).far hM1 id
  have hB1 := (boxed2 w (.int .i64 k) (.int .i64 x1) (.int .i64 x2) (.int .i64 x3) (.int .i64 x4) (.int .i64 x5) (.string d) (.int .i64 x7) (.slice ca cn cc)).below.trans (hM1.below.mono (by simp only [World.size_alloc]; omega))
  clear hM1 hak
  go_wp2_with fail
  refine bodyPost_ret (v := ansU 1 0 ⟨#[]⟩ 0) (by simp only [results, Try.results30, ansU]; go_simp) rfl ?_
  exact ⟨rfl, by (repeat (first | with_reducible exact hB1 | with_reducible refine Below.drew ?_ | with_reducible refine Esch.below_drewN ?_ _ | with_reducible refine Below.setCell ?_ (by first | omega | (simp; done) | (simp; omega)) _ | with_reducible refine Below.alloc ?_ (by first | omega | (simp; done) | (simp; omega)) _))⟩
set_option maxRecDepth 100000 in
set_option maxHeartbeats 2000000 in
theorem rpcDo_unit (h : NodesAt w nb g cap ob lb lm T ub pb mb D s) (i : Nat) (hi : i < 16) (k : Int) (hk : k = 1 ∨ k = 2 ∨ k = 3 ∨ k = 4 ∨ k = 5) (hd : d.size ≤ 9223372036854775807) :
    Calls Try.prog 30 #[.pointer (some ⟨nb, 0, none⟩), .agg #[.int .i64 k, .int .i64 i, .int .i64 x2, .int .i64 x3, .int .i64 x4, .int .i64 x5, .string d, .int .i64 x7, .slice ca cn cc]] w
    fun e w' => e = .returned (ansU ((s.units i).do k x2 x3 d).1.1 ((s.units i).do k x2 x3 d).1.2.1 ((s.units i).do k x2 x3 d).1.2.2.1 ((s.units i).do k x2 x3 d).1.2.2.2) ∧ UnitAt w' (ub i) (pb i) (mb i) ((s.units i).do k x2 x3 d).2 ∧ Mod (fun j => j = ub i ∨ j = pb i ∨ j = mb i) w w' := by
  obtain ⟨W, hW, ab, rb, hab, hrb, hX⟩ : ∃ W, W = _ ∧ ∃ ab rb, ab = w.heap.size ∧ rb = w.heap.size + 1 ∧ Boxed2 w W ab rb (.int .i64 k) (.int .i64 i) (.int .i64 x2) (.int .i64 x3) (.int .i64 x4) (.int .i64 x5) (.string d) (.int .i64 x7) (.slice ca cn cc) := ⟨_, rfl, _, _, rfl, rfl, boxed2 w _ _ _ _ _ _ _ _ _⟩
  have hak := asked_unit (w := W) (i : Int) x2 x3 x4 x5 x7 d ca cn cc (.pointer (some ⟨nb, 0, none⟩)) (.pointer (some ⟨ub i, 0, none⟩)) (fun W' hW' => rpcUnit_in ((h.below hX.below).mod (F := none') hW' (fun _ _ _ => id)) i hi) k hk
  obtain ⟨hu, hok⟩ := h.unit i hi
  have hdo := fun W' (hW' : Mod none' w W') => unDo_any (i : Int) x4 x5 x7 ca cn cc k W' (ub i) (pb i) (mb i) (s.units i) hok (hu.mod (F := none') hW' id id id) x2 x3 d hd
  have hu0 := cell_lt hu.c0
  have hb0 := cell_lt hu.pages.c0
  have hm0 := hu.pages.mlt
  generalize hr : (s.units i).do k x2 x3 d = r at hdo ⊢
  obtain ⟨⟨yc, yn, yd, ye⟩, us⟩ := r
  have HW := Lib.hid hW
  have HA := Lib.hid hab
  have HR := Lib.hid hrb
  have HX := Lib.hid hX
  have hzW := hX.size
  have hrb2 := hX.brb
  clear h hW hab hrb hX hu hok hr
  go_enter Try.func30, Try.ntmps30
  go_wp2_with fail
  rw [← HW.out, ← HR.out, ← HA.out]
  refine hak.mono ?_
  clear hak
  rintro e w1 ⟨rfl, hM1⟩
  have q0 := hM1.at HX.out.q0 id
  have q1 := hM1.at HX.out.q1 id
  have q2 := hM1.at HX.out.q2 id
  have q3 := hM1.at HX.out.q3 id
  have q4 := hM1.at HX.out.q4 id
  have q5 := hM1.at HX.out.q5 id
  have q6 := hM1.at HX.out.q6 id
  have q7 := hM1.at HX.out.q7 id
  have q8 := hM1.at HX.out.q8 id
  have HM1 := Lib.hid hM1
  clear hM1
  go_wp2_with fail
  refine (hdo w1 (by (repeat' (first | (with_reducible exact ((Mod.of_below HX.out.below).trans HM1.out)) | (with_reducible apply Mod.drew) | (with_reducible apply Mod.drewN) | (with_reducible apply Mod.alloc) | (with_reducible apply Mod.setCellAt) | (intro _; first | rfl | exact Or.inl rfl | exact Or.inr rfl) | (intro h; exfalso; omega))))).mono ?_
  clear hdo q0 q1 q2 q3 q4 q5 q6 q7 q8
  rintro e w4 ⟨rfl, hU4, hM4'⟩
  have hM4 := (mod_none HM1.out).trans hM4'
  obtain ⟨g0, g1, g2, g3, g4, g5, g6, g7, f0, f1, f2, f3, f4, f5, f6, f7⟩ := HX.out.far hM4 (by omega)
  have HU4 := Lib.hid hU4
  have HM4 := Lib.hid hM4
  clear hU4 hM4 hM4'
  simp only [ansU]
  go_wp2_with fail
  refine bodyPost_ret (v := ansU yc yn yd ye) (by simp only [results, Try.results30, ansU]; go_simp) rfl ?_
  refine ⟨rfl, HU4.out.mod (F := (· = rb)) (by (repeat' (first | (with_reducible exact (Mod.refl _ _)) | (with_reducible apply Mod.drew) | (with_reducible apply Mod.drewN) | (with_reducible apply Mod.alloc) | (with_reducible apply Mod.setCellAt) | (intro _; first | rfl | exact Or.inl rfl | exact Or.inr rfl) | (intro h; exfalso; omega)))) (by omega) (by omega) (by omega), ?_⟩
  refine (mod_none (Mod.of_below HX.out.below)).trans' (show Mod (fun j => j = rb ∨ j = ub i ∨ j = pb i ∨ j = mb i) W _ from ?_) (fun j hj e => ?_)
  · repeat' (first | (with_reducible exact HM4.out.mono (fun _ _ h => Or.inr h)) | (with_reducible apply Mod.setCellAt) | (with_reducible apply Mod.drew) | (intro _; exact Or.inl rfl))
  · rcases e with e | e
    · omega
    · exact e
end
end Go.Proofs.Ytpkdpmkiplopmaa
