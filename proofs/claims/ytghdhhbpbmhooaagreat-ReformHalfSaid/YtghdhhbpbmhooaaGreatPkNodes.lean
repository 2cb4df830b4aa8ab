import Derived.Test.YtghdhhbpbmhooaaGreatUnit4
import Derived.Test.YtghdhhbpbmhooaaGreatOrder3
import Derived.Test.YtghdhhbpbmhooaaGreatLayout6
import Derived.Test.YtghdhhbpbmhooaaGreatPkKeep
import Derived.Test.YtghdhhbpbmhooaaGreatCopy
/- all nodes together: the program's -/
namespace Go.Proofs.YtghdhhbpbmhooaaGreat
open Go.RowKit Esch

structure NdS where
  units : Nat → UnS
  o : Ord
  l : LayS
structure NodesAt (w : World) (nb g cap ob lb lm T : Nat) (ub pb mb : Nat → Nat) (D : Nat → Nat) (s : NdS) : Prop where
  c0 : w.cell? ⟨nb, 0, none⟩ = some (.slice (some ⟨g, 0, none⟩) 16 cap)
  c1 : w.cell? ⟨nb, 1, none⟩ = some (.pointer (some ⟨ob, 0, none⟩))
  c2 : w.cell? ⟨nb, 2, none⟩ = some (.pointer (some ⟨lb, 0, none⟩))
  row : ∀ i, i < 16 → w.cell? ⟨g, i, none⟩ = some (.pointer (some ⟨ub i, 0, none⟩))
  unit : ∀ i, i < 16 → UnitAt w (ub i) (pb i) (mb i) (s.units i) ∧ (s.units i).pg.ok
  du : ∀ i, i < 16 → D (ub i) = i ∧ D (pb i) = i ∧ D (mb i) = i
  ord : OrdAt w ob s.o
  ook : s.o.ok
  dord : D ob = 16
  lay : LayAt (fun k => D k = 17) w lb lm T s.l
  lok : s.l.ok
  dn : D nb = 18
  dg : D g = 18
/-- nodes stay as they are where nothing of theirs is written -/
theorem NodesAt.mod {F : Nat → Prop} {w w' : World} {nb g cap ob lb lm T : Nat} {ub pb mb D : Nat → Nat} {s : NdS} (h : NodesAt w nb g cap ob lb lm T ub pb mb D s) (hM : Mod F w w') (hF : ∀ k, k < w.heap.size → D k ≤ 18 → ¬ F k) : NodesAt w' nb g cap ob lb lm T ub pb mb D s := by
  have hn := hF nb (cell_lt h.c0) (by rw [h.dn]; omega)
  have hg : ∀ i, i < 16 → ¬ F g := fun i hi => hF g (cell_lt (h.row i hi)) (by rw [h.dg]; omega)
  refine ⟨hM.at h.c0 hn, hM.at h.c1 hn, hM.at h.c2 hn, fun i hi => hM.at (h.row i hi) (hg i hi), fun i hi => ?_, h.du, h.ord.mod hM (hF ob h.ord.lt (by rw [h.dord]; omega)), h.ook, h.dord, h.lay.mod hM (fun k hk hl => hF k hl (by show D k ≤ 18; rw [show D k = 17 from hk]; omega)), h.lok, h.dn, h.dg⟩
  obtain ⟨d1, d2, d3⟩ := h.du i hi
  have hu := (h.unit i hi).1
  exact ⟨hu.mod hM (hF _ (cell_lt hu.c0) (by omega)) (hF _ (cell_lt hu.pages.c0) (by omega)) (hF _ hu.pages.mlt (by omega)), (h.unit i hi).2⟩
theorem NodesAt.below {w w' : World} {nb g cap ob lb lm T : Nat} {ub pb mb D : Nat → Nat} {s : NdS} (h : NodesAt w nb g cap ob lb lm T ub pb mb D s) (hB : Below w.heap.size w w') : NodesAt w' nb g cap ob lb lm T ub pb mb D s := h.mod (F := none') (Mod.of_below hB) (fun _ _ _ => id)
/-- a unit has changed -/
theorem NodesAt.setUnit {w w' : World} {nb g cap ob lb lm T i : Nat} {ub pb mb D : Nat → Nat} {s : NdS} {u : UnS} (h : NodesAt w nb g cap ob lb lm T ub pb mb D s) (hi : i < 16) (hu : UnitAt w' (ub i) (pb i) (mb i) u) (hok : u.pg.ok) (hM : Mod (fun k => k = ub i ∨ k = pb i ∨ k = mb i) w w') :
    NodesAt w' nb g cap ob lb lm T ub pb mb D { s with units := fun j => if j = i then u else s.units j } := by
  obtain ⟨d1, d2, d3⟩ := h.du i hi
  have hF : ∀ k, D k ≠ i → ¬ (k = ub i ∨ k = pb i ∨ k = mb i) := by
    rintro k hk (rfl | rfl | rfl)
    · exact hk d1
    · exact hk d2
    · exact hk d3
  have hn := hF nb (by rw [h.dn]; omega)
  have hg := hF g (by rw [h.dg]; omega)
  refine ⟨hM.at h.c0 hn, hM.at h.c1 hn, hM.at h.c2 hn, fun j hj => hM.at (h.row j hj) hg, fun j hj => ?_, h.du, h.ord.mod hM (hF ob (by rw [h.dord]; omega)), h.ook, h.dord, h.lay.mod hM (fun k hk _ => hF k (by rw [show D k = 17 from hk]; omega)), h.lok, h.dn, h.dg⟩
  by_cases e : j = i
  · subst e
    simp only [if_true]
    exact ⟨hu, hok⟩
  · simp only [if_neg e]
    obtain ⟨e1, e2, e3⟩ := h.du j hj
    have hj' := (h.unit j hj).1
    exact ⟨hj'.mod hM (hF _ (by omega)) (hF _ (by omega)) (hF _ (by omega)), (h.unit j hj).2⟩
theorem NodesAt.setOrd {w w' : World} {nb g cap ob lb lm T : Nat} {ub pb mb D : Nat → Nat} {s : NdS} {o : Ord} (h : NodesAt w nb g cap ob lb lm T ub pb mb D s) (ho : OrdAt w' ob o) (hok : o.ok) (hM : Mod (· = ob) w w') :
    NodesAt w' nb g cap ob lb lm T ub pb mb D { s with o := o } := by
  have hF : ∀ k, D k ≠ 16 → ¬ (k = ob) := fun k hk e => hk (by rw [e]; exact h.dord)
  have hn := hF nb (by rw [h.dn]; omega)
  have hg := hF g (by rw [h.dg]; omega)
  refine ⟨hM.at h.c0 hn, hM.at h.c1 hn, hM.at h.c2 hn, fun j hj => hM.at (h.row j hj) hg, fun j hj => ?_, h.du, ho, hok, h.dord, h.lay.mod hM (fun k hk _ => hF k (by rw [show D k = 17 from hk]; omega)), h.lok, h.dn, h.dg⟩
  obtain ⟨e1, e2, e3⟩ := h.du j hj
  have hj' := (h.unit j hj).1
  exact ⟨hj'.mod hM (hF _ (by omega)) (hF _ (by omega)) (hF _ (by omega)), (h.unit j hj).2⟩
/-- the layout has changed, and what is new is the layout's -/
theorem NodesAt.setLay {w w' : World} {nb g cap ob lb lm T T' : Nat} {ub pb mb D : Nat → Nat} {s : NdS} {l : LayS} (h : NodesAt w nb g cap ob lb lm T ub pb mb D s) (hl : LayAt (fun k => D k = 17 ∨ w.heap.size ≤ k) w' lb lm T' l) (hok : l.ok) (hM : Mod (fun j => j = lb ∨ j = lm) w w') :
    NodesAt w' nb g cap ob lb lm T' ub pb mb (fun k => if k < w.heap.size then D k else 17) { s with l := l } := by
  have hF : ∀ k, D k ≠ 17 → ¬ (k = lb ∨ k = lm) := by
    rintro k hk (rfl | rfl)
    · exact hk h.lay.sb
    · exact hk h.lay.sm
  have hn := hF nb (by rw [h.dn]; omega)
  have hg := hF g (by rw [h.dg]; omega)
  have hlt : ∀ {k : Nat}, k < w.heap.size → (if k < w.heap.size then D k else 17) = D k := fun hk => if_pos hk
  refine ⟨hM.at h.c0 hn, hM.at h.c1 hn, hM.at h.c2 hn, fun j hj => hM.at (h.row j hj) hg, fun j hj => ?_, fun j hj => ?_, h.ord.mod hM (hF ob (by rw [h.dord]; omega)), h.ook, ?_, hl.sub (fun k _ hk => ?_), hok, ?_, ?_⟩
  · obtain ⟨e1, e2, e3⟩ := h.du j hj
    have hj' := (h.unit j hj).1
    exact ⟨hj'.mod hM (hF _ (by omega)) (hF _ (by omega)) (hF _ (by omega)), (h.unit j hj).2⟩
  · have hj' := (h.unit j hj).1
    simp only [hlt (cell_lt hj'.c0), hlt (cell_lt hj'.pages.c0), hlt hj'.pages.mlt]
    exact h.du j hj
  · simp only [hlt h.ord.lt]; exact h.dord
  · show (if k < w.heap.size then D k else 17) = 17
    by_cases e : k < w.heap.size
    · rw [if_pos e]; rcases hk with hk | hk
      · exact hk
      · omega
    · rw [if_neg e]
  · simp only [hlt (cell_lt h.c0)]; exact h.dn
  · simp only [hlt (cell_lt (h.row 0 (by omega)))]; exact h.dg
end Go.Proofs.YtghdhhbpbmhooaaGreat
/- all nodes together: which one is asked -/
namespace Go.Proofs.YtghdhhbpbmhooaaGreat
open Go.RowKit Esch

@[simp] theorem ta00 (v : Value) (w : World) : (Instr.typeAssert (.iface 88 v) 172 88 true).run Tryz.prog w = .ok (.tuple #[v, .bool true]) w := by kernel_rfl
@[simp] theorem ta01 (v : Value) (w : World) : (Instr.typeAssert (.iface 88 v) 172 117 true).run Tryz.prog w = .ok (.tuple #[.pointer none, .bool false]) w := by kernel_rfl
@[simp] theorem ta02 (v : Value) (w : World) : (Instr.typeAssert (.iface 88 v) 172 64 true).run Tryz.prog w = .ok (.tuple #[.pointer none, .bool false]) w := by kernel_rfl
@[simp] theorem tan0 (w : World) : (Instr.typeAssert .nilIface 172 88 true).run Tryz.prog w = .ok (.tuple #[.pointer none, .bool false]) w := by kernel_rfl
@[simp] theorem ta10 (v : Value) (w : World) : (Instr.typeAssert (.iface 117 v) 172 88 true).run Tryz.prog w = .ok (.tuple #[.pointer none, .bool false]) w := by kernel_rfl
@[simp] theorem ta11 (v : Value) (w : World) : (Instr.typeAssert (.iface 117 v) 172 117 true).run Tryz.prog w = .ok (.tuple #[v, .bool true]) w := by kernel_rfl
@[simp] theorem ta12 (v : Value) (w : World) : (Instr.typeAssert (.iface 117 v) 172 64 true).run Tryz.prog w = .ok (.tuple #[.pointer none, .bool false]) w := by kernel_rfl
@[simp] theorem tan1 (w : World) : (Instr.typeAssert .nilIface 172 117 true).run Tryz.prog w = .ok (.tuple #[.pointer none, .bool false]) w := by kernel_rfl
@[simp] theorem ta20 (v : Value) (w : World) : (Instr.typeAssert (.iface 64 v) 172 88 true).run Tryz.prog w = .ok (.tuple #[.pointer none, .bool false]) w := by kernel_rfl
@[simp] theorem ta21 (v : Value) (w : World) : (Instr.typeAssert (.iface 64 v) 172 117 true).run Tryz.prog w = .ok (.tuple #[.pointer none, .bool false]) w := by kernel_rfl
@[simp] theorem ta22 (v : Value) (w : World) : (Instr.typeAssert (.iface 64 v) 172 64 true).run Tryz.prog w = .ok (.tuple #[v, .bool true]) w := by kernel_rfl
@[simp] theorem tan2 (w : World) : (Instr.typeAssert .nilIface 172 64 true).run Tryz.prog w = .ok (.tuple #[.pointer none, .bool false]) w := by kernel_rfl
variable {w : World} {nb g cap ob lb lm T : Nat} {ub pb mb D : Nat → Nat} {s : NdS}
set_option maxHeartbeats 1000000 in
theorem rpcUnit_in (h : NodesAt w nb g cap ob lb lm T ub pb mb D s) (k : Nat) (hk : k < 16) : Calls Tryz.prog 42 #[.pointer (some ⟨nb, 0, none⟩), .int .i64 k] w fun e w' => e = .returned (.pointer (some ⟨ub k, 0, none⟩)) ∧ Mod none' w w' := by
  have c0 := h.c0
  have r := h.row k hk
  have k0 : (0 : Int) ≤ k := by omega
  have k1 : (k : Int) < 16 := by omega
  clear h
  go_enter Tryz.func42, Tryz.ntmps42
  go_wp2_with fail
  all_goals try go_quiet (fail)
  all_goals go_wp2_with fail
  go_ret
  exact ⟨rfl, by exact modC (Mod.refl _ _)⟩
set_option maxHeartbeats 1000000 in
theorem rpcUnit_out (h : NodesAt w nb g cap ob lb lm T ub pb mb D s) (k : Int) (hk : k < 0 ∨ 16 ≤ k) : Calls Tryz.prog 42 #[.pointer (some ⟨nb, 0, none⟩), .int .i64 k] w fun e w' => e = .returned (.pointer none) ∧ Mod none' w w' := by
  have c0 := h.c0
  have hk' : k < 0 ∨ (0 ≤ k ∧ 16 ≤ k) := by omega
  clear h hk
  rcases hk' with hk | ⟨hk, hk2⟩
  all_goals
    go_enter Tryz.func42, Tryz.ntmps42
    go_wp2_with fail
    all_goals try go_quiet (fail)
    all_goals go_wp2_with fail
    go_ret
    exact ⟨rfl, by exact modC (Mod.refl _ _)⟩
theorem rpcLayout_any (h : NodesAt w nb g cap ob lb lm T ub pb mb D s) : Calls Tryz.prog 28 #[.pointer (some ⟨nb, 0, none⟩)] w fun e w' => e = .returned (.pointer (some ⟨lb, 0, none⟩)) ∧ w' = w := by
  have c2 := h.c2
  clear h
  go_enter Tryz.func28, Tryz.ntmps28
  go_wp2_with fail
  go_ret
  exact ⟨rfl, rfl⟩
section
variable (x1 x2 x3 x4 x5 x7 : Int) (d : ByteArray) (ca : Option Addr) (cn cc : Nat)
set_option maxRecDepth 100000 in
set_option maxHeartbeats 1000000 in
theorem asked_no (w : World) (nb : Nat) (k : Int) (hk : k < 1 ∨ 11 < k) : Calls Tryz.prog 93 #[.pointer (some ⟨nb, 0, none⟩), .agg #[.int .i64 k, .int .i64 x1, .int .i64 x2, .int .i64 x3, .int .i64 x4, .int .i64 x5, .string d, .int .i64 x7, .slice ca cn cc]] w
    fun e w' => e = .returned .nilIface ∧ Mod none' w w' := by
  go_enter Tryz.func93, Tryz.ntmps93
  go_wp2_with fail
  go_ret
  exact ⟨rfl, by exact modC (Mod.refl _ _)⟩
set_option maxRecDepth 100000 in
set_option maxHeartbeats 1000000 in
theorem asked_unit (nv : Value) (v : Value) (hU : ∀ W, Mod none' w W → Calls Tryz.prog 42 #[nv, .int .i64 x1] W fun e w' => e = .returned v ∧ Mod none' W w') (k : Int) (hk : k = 1 ∨ k = 2 ∨ k = 3 ∨ k = 4 ∨ k = 5) :
    Calls Tryz.prog 93 #[nv, .agg #[.int .i64 k, .int .i64 x1, .int .i64 x2, .int .i64 x3, .int .i64 x4, .int .i64 x5, .string d, .int .i64 x7, .slice ca cn cc]] w
    fun e w' => e = .returned (.iface 88 v) ∧ Mod none' w w' := by
  rcases hk with rfl | rfl | rfl | rfl | rfl
  all_goals
    go_enter Tryz.func93, Tryz.ntmps93
    go_wp2_with fail
    refine (hU _ (by exact modC (Mod.refl _ _))).mono ?_
    rintro e w1 ⟨rfl, hM1⟩
    go_wp2_with fail
    go_ret
    exact ⟨rfl, by exact modC (((Mod.refl _ _).alloc _).trans hM1)⟩
set_option maxRecDepth 100000 in
set_option maxHeartbeats 1000000 in
theorem asked_ord (h : NodesAt w nb g cap ob lb lm T ub pb mb D s) (k : Int) (hk : k = 6 ∨ k = 7 ∨ k = 8) : Calls Tryz.prog 93 #[.pointer (some ⟨nb, 0, none⟩), .agg #[.int .i64 k, .int .i64 x1, .int .i64 x2, .int .i64 x3, .int .i64 x4, .int .i64 x5, .string d, .int .i64 x7, .slice ca cn cc]] w
    fun e w' => e = .returned (.iface 117 (.pointer (some ⟨ob, 0, none⟩))) ∧ Mod none' w w' := by
  have c1 := h.c1
  have hl := cell_lt h.c1
  clear h
  rcases hk with rfl | rfl | rfl
  all_goals
    go_enter Tryz.func93, Tryz.ntmps93
    go_wp2_with fail
    go_ret
    exact ⟨rfl, by exact modC (Mod.refl _ _)⟩
set_option maxRecDepth 100000 in
set_option maxHeartbeats 1000000 in
theorem asked_lay (h : NodesAt w nb g cap ob lb lm T ub pb mb D s) (k : Int) (hk : k = 9 ∨ k = 10 ∨ k = 11) : Calls Tryz.prog 93 #[.pointer (some ⟨nb, 0, none⟩), .agg #[.int .i64 k, .int .i64 x1, .int .i64 x2, .int .i64 x3, .int .i64 x4, .int .i64 x5, .string d, .int .i64 x7, .slice ca cn cc]] w
    fun e w' => e = .returned (.iface 64 (.pointer (some ⟨lb, 0, none⟩))) ∧ Mod none' w w' := by
  have c2 := h.c2
  have hl := cell_lt h.c2
  clear h
  rcases hk with rfl | rfl | rfl
  all_goals
    go_enter Tryz.func93, Tryz.ntmps93
    go_wp2_with fail
    go_ret
    exact ⟨rfl, by exact modC (Mod.refl _ _)⟩
set_option maxRecDepth 100000 in
set_option maxHeartbeats 1000000 in
theorem rpcDo_nil (w : World) (k : Int) : Calls Tryz.prog 60 #[.pointer none, .agg #[.int .i64 k, .int .i64 x1, .int .i64 x2, .int .i64 x3, .int .i64 x4, .int .i64 x5, .string d, .int .i64 x7, .slice ca cn cc]] w
    fun e w' => e = .returned (ansU 1 0 ⟨#[]⟩ 0) ∧ Below w.heap.size w w' := by
  go_enter Tryz.func60, Tryz.ntmps60
  go_wp2_with fail
  refine bodyPost_ret (v := ansU 1 0 ⟨#[]⟩ 0) (by simp only [results, Tryz.results60, ansU]; go_simp) rfl ?_
  exact ⟨rfl, by exact belC (Below.refl _ _)⟩
set_option maxRecDepth 100000 in
set_option maxHeartbeats 1000000 in
theorem rpcDo_no (w : World) (nb : Nat) (k : Int) (hk : k < 1 ∨ 11 < k) : Calls Tryz.prog 60 #[.pointer (some ⟨nb, 0, none⟩), .agg #[.int .i64 k, .int .i64 x1, .int .i64 x2, .int .i64 x3, .int .i64 x4, .int .i64 x5, .string d, .int .i64 x7, .slice ca cn cc]] w
    fun e w' => e = .returned (ansU 1 0 ⟨#[]⟩ 0) ∧ Below w.heap.size w w' := by
  have hak := fun W => asked_no x1 x2 x3 x4 x5 x7 d ca cn cc W nb k hk
  go_enter Tryz.func60, Tryz.ntmps60
  go_wp2_with fail
  refine (hak _).mono ?_
  rintro e w1 ⟨rfl, hM1⟩
  obtain ⟨g0, g1, g2, g3, g4, g5, g6, g7, f0, f1, f2, f3, f4, f5, f6, f7⟩ := (boxed2 w (.int .i64 k) (.int .i64 x1) (.int .i64 x2) (.int .i64 x3) (.int .i64 x4) (.int .i64 x5) (.string d) (.int .i64 x7) (.slice ca cn cc)).far hM1 id
  have hB1 := (boxed2 w (.int .i64 k) (.int .i64 x1) (.int .i64 x2) (.int .i64 x3) (.int .i64 x4) (.int .i64 x5) (.string d) (.int .i64 x7) (.slice ca cn cc)).below.trans (hM1.below.mono (by simp only [World.size_alloc]; omega))
  clear hM1 hak
  go_wp2_with fail
  refine bodyPost_ret (v := ansU 1 0 ⟨#[]⟩ 0) (by simp only [results, Tryz.results60, ansU]; go_simp) rfl ?_
  exact ⟨rfl, by exact belC hB1⟩
set_option maxRecDepth 100000 in
set_option maxHeartbeats 2000000 in
theorem rpcDo_unit (h : NodesAt w nb g cap ob lb lm T ub pb mb D s) (i : Nat) (hi : i < 16) (k : Int) (hk : k = 1 ∨ k = 2 ∨ k = 3 ∨ k = 4 ∨ k = 5) (hd : d.size ≤ 9223372036854775807) :
    Calls Tryz.prog 60 #[.pointer (some ⟨nb, 0, none⟩), .agg #[.int .i64 k, .int .i64 i, .int .i64 x2, .int .i64 x3, .int .i64 x4, .int .i64 x5, .string d, .int .i64 x7, .slice ca cn cc]] w
    fun e w' => e = .returned (ansU ((s.units i).do k x2 x3 d).1.1 ((s.units i).do k x2 x3 d).1.2.1 ((s.units i).do k x2 x3 d).1.2.2.1 ((s.units i).do k x2 x3 d).1.2.2.2) ∧ UnitAt w' (ub i) (pb i) (mb i) ((s.units i).do k x2 x3 d).2 ∧ Mod (fun j => j = ub i ∨ j = pb i ∨ j = mb i) w w' := by
  obtain ⟨W, hW, ab, rb, hab, hrb, hX⟩ : ∃ W, W = _ ∧ ∃ ab rb, ab = w.heap.size ∧ rb = w.heap.size + 1 ∧ Boxed2 w W ab rb (.int .i64 k) (.int .i64 i) (.int .i64 x2) (.int .i64 x3) (.int .i64 x4) (.int .i64 x5) (.string d) (.int .i64 x7) (.slice ca cn cc) := ⟨_, rfl, _, _, rfl, rfl, boxed2 w _ _ _ _ _ _ _ _ _⟩
  have hak := asked_unit (w := W) (i : Int) x2 x3 x4 x5 x7 d ca cn cc (.pointer (some ⟨nb, 0, none⟩)) (.pointer (some ⟨ub i, 0, none⟩)) (fun W' hW' => rpcUnit_in ((h.below hX.below).mod (F := none') hW' (fun _ _ _ => id)) i hi) k hk
  obtain ⟨hu, hok⟩ := h.unit i hi
  have hdo := fun W' (hW' : Mod none' w W') => unDo_any (i : Int) x4 x5 x7 ca cn cc k W' (ub i) (pb i) (mb i) (s.units i) hok (hu.mod (F := none') hW' id id id) x2 x3 d hd
  have hu0 := cell_lt hu.c0
  have hb0 := cell_lt hu.pages.c0
  have hm0 := hu.pages.mlt
  generalize hr : (s.units i).do k x2 x3 d = r at hdo ⊢
  obtain ⟨⟨yc, yn, yd, ye⟩, us⟩ := r
  have HW := Lib.hid hW
  have HA := Lib.hid hab
  have HR := Lib.hid hrb
  have HX := Lib.hid hX
  have hzW := hX.size
  have hrb2 := hX.brb
  clear h hW hab hrb hX hu hok hr
  go_enter Tryz.func60, Tryz.ntmps60
  go_wp2_with fail
  rw [← HW.out, ← HR.out, ← HA.out]
  refine hak.mono ?_
  clear hak
  rintro e w1 ⟨rfl, hM1⟩
  have q0 := hM1.at HX.out.q0 id
  have q1 := hM1.at HX.out.q1 id
  have q2 := hM1.at HX.out.q2 id
  have q3 := hM1.at HX.out.q3 id
  have q4 := hM1.at HX.out.q4 id
  have q5 := hM1.at HX.out.q5 id
  have q6 := hM1.at HX.out.q6 id
  have q7 := hM1.at HX.out.q7 id
  have q8 := hM1.at HX.out.q8 id
  have HM1 := Lib.hid hM1
  clear hM1
  go_wp2_with fail
  refine (hdo w1 (by exact modC ((Mod.of_below HX.out.below).trans HM1.out))).mono ?_
  clear hdo q0 q1 q2 q3 q4 q5 q6 q7 q8
  rintro e w4 ⟨rfl, hU4, hM4'⟩
  have hM4 := (mod_none HM1.out).trans hM4'
  obtain ⟨g0, g1, g2, g3, g4, g5, g6, g7, f0, f1, f2, f3, f4, f5, f6, f7⟩ := HX.out.far hM4 (by omega)
  have HU4 := Lib.hid hU4
  have HM4 := Lib.hid hM4
  clear hU4 hM4 hM4'
  simp only [ansU]
  go_wp2_with fail
  refine bodyPost_ret (v := ansU yc yn yd ye) (by simp only [results, Tryz.results60, ansU]; go_simp) rfl ?_
  refine ⟨rfl, HU4.out.mod (F := (· = rb)) (by exact modC (Mod.refl _ _)) (by omega) (by omega) (by omega), ?_⟩
  refine (mod_none (Mod.of_below HX.out.below)).trans' (show Mod (fun j => j = rb ∨ j = ub i ∨ j = pb i ∨ j = mb i) W _ from ?_) (fun j hj e => ?_)
  · repeat' (first | (with_reducible exact HM4.out.mono (fun _ _ h => Or.inr h)) | (with_reducible apply Mod.setCellAt) | (with_reducible apply Mod.drew) | (intro _; exact Or.inl rfl))
  · rcases e with e | e
    · omega
    · exact e
end
end Go.Proofs.YtghdhhbpbmhooaaGreat
/- all nodes together: the sequencer, the layout -/
namespace Go.Proofs.YtghdhhbpbmhooaaGreat
open Go.RowKit Esch

variable {w : World} {nb g cap ob lb lm T : Nat} {ub pb mb D : Nat → Nat} {s : NdS}
section
variable (x1 x2 x3 x4 x5 x7 : Int) (d : ByteArray) (ca : Option Addr) (cn cc : Nat)
set_option maxRecDepth 100000 in
set_option maxHeartbeats 2000000 in
theorem rpcDo_ord (h : NodesAt w nb g cap ob lb lm T ub pb mb D s) (k : Int) (hk : k = 6 ∨ k = 7 ∨ k = 8) :
    Calls Tryz.prog 60 #[.pointer (some ⟨nb, 0, none⟩), .agg #[.int .i64 k, .int .i64 x1, .int .i64 x2, .int .i64 x3, .int .i64 x4, .int .i64 x5, .string d, .int .i64 x7, .slice ca cn cc]] w
    (AnsPost w ob (ordDo s.o k x2 x3).1 (ordDo s.o k x2 x3).2.1 (ordDo s.o k x2 x3).2.2.epoch (ordDo s.o k x2 x3).2.2) := by
  obtain ⟨W, hW, ab, rb, hab, hrb, hX⟩ : ∃ W, W = _ ∧ ∃ ab rb, ab = w.heap.size ∧ rb = w.heap.size + 1 ∧ Boxed2 w W ab rb (.int .i64 k) (.int .i64 x1) (.int .i64 x2) (.int .i64 x3) (.int .i64 x4) (.int .i64 x5) (.string d) (.int .i64 x7) (.slice ca cn cc) := ⟨_, rfl, _, _, rfl, rfl, boxed2 w _ _ _ _ _ _ _ _ _⟩
  have hak := asked_ord x1 x2 x3 x4 x5 x7 d ca cn cc (h.below hX.below) k hk
  have hdo := fun W' (hW' : Mod none' w W') => ordDo_any x1 x2 x3 x4 x5 d x7 ca cn cc k W' ob s.o h.ook (h.ord.mod (F := none') hW' id)
  have hu0 := h.ord.lt
  unfold AnsPost at hdo ⊢
  generalize hr : ordDo s.o k x2 x3 = r at hdo ⊢
  obtain ⟨yc, yn, us⟩ := r
  have HW := Lib.hid hW
  have HA := Lib.hid hab
  have HR := Lib.hid hrb
  have HX := Lib.hid hX
  have hzW := hX.size
  have hrb2 := hX.brb
  clear h hW hab hrb hX hr
  go_enter Tryz.func60, Tryz.ntmps60
  go_wp2_with fail
  rw [← HW.out, ← HR.out, ← HA.out]
  refine hak.mono ?_
  clear hak
  rintro e w1 ⟨rfl, hM1⟩
  have q0 := hM1.at HX.out.q0 id
  have q1 := hM1.at HX.out.q1 id
  have q2 := hM1.at HX.out.q2 id
  have q3 := hM1.at HX.out.q3 id
  have q4 := hM1.at HX.out.q4 id
  have q5 := hM1.at HX.out.q5 id
  have q6 := hM1.at HX.out.q6 id
  have q7 := hM1.at HX.out.q7 id
  have q8 := hM1.at HX.out.q8 id
  have HM1 := Lib.hid hM1
  clear hM1
  go_wp2_with fail
  refine (hdo w1 (by exact modC ((Mod.of_below HX.out.below).trans HM1.out))).mono ?_
  clear hdo q0 q1 q2 q3 q4 q5 q6 q7 q8
  rintro e w4 ⟨rfl, hU4, hM4'⟩
  have hM4 := (mod_none HM1.out).trans hM4'
  obtain ⟨g0, g1, g2, g3, g4, g5, g6, g7, f0, f1, f2, f3, f4, f5, f6, f7⟩ := HX.out.far hM4 (by omega)
  have HU4 := Lib.hid hU4
  have HM4 := Lib.hid hM4
  clear hU4 hM4 hM4'
  simp only [ansV]
  go_wp2_with fail
  refine bodyPost_ret (v := ansV yc yn us.epoch) (by simp only [results, Tryz.results60, ansV]; go_simp) rfl ?_
  refine ⟨rfl, HU4.out.mod (F := (· = rb)) (by exact modC (Mod.refl _ _)) (by omega), ?_⟩
  refine (mod_none (Mod.of_below HX.out.below)).trans' (show Mod (fun j => j = rb ∨ j = ob) W _ from ?_) (fun j hj e => ?_)
  · repeat' (first | (with_reducible exact HM4.out.mono (fun _ _ h => Or.inr h)) | (with_reducible apply Mod.setCellAt) | (with_reducible apply Mod.drew) | (intro _; exact Or.inl rfl))
  · rcases e with e | e
    · omega
    · exact e
set_option maxRecDepth 100000 in
set_option maxHeartbeats 2000000 in
theorem rpcDo_lay (q : Proj) (h : NodesAt w nb g cap ob lb lm T ub pb mb D s) (hT : T ≤ 1000000000) (S' : Nat → Prop) (hq : ListsAt S' w ca q.chains) (hS : ∀ k, S' k → k < w.heap.size → D k ≠ 17) (k : Int) (hk : k = 9 ∨ k = 10 ∨ k = 11) :
    Calls Tryz.prog 60 #[.pointer (some ⟨nb, 0, none⟩), .agg #[.int .i64 k, .int .i64 x1, .int .i64 x2, .int .i64 x3, .int .i64 x4, .int .i64 x5, .string d, .int .i64 q.epoch, .slice ca q.chains.length cc]] w
    (LayDoPost (fun k => D k = 17) w lb lm T (layDo s.l k q x3 x4 x5)) := by
  obtain ⟨W, hW, ab, rb, hab, hrb, hX⟩ : ∃ W, W = _ ∧ ∃ ab rb, ab = w.heap.size ∧ rb = w.heap.size + 1 ∧ Boxed2 w W ab rb (.int .i64 k) (.int .i64 x1) (.int .i64 x2) (.int .i64 x3) (.int .i64 x4) (.int .i64 x5) (.string d) (.int .i64 q.epoch) (.slice ca q.chains.length cc) := ⟨_, rfl, _, _, rfl, rfl, boxed2 w _ _ _ _ _ _ _ _ _⟩
  have hak := asked_lay x1 x2 x3 x4 x5 q.epoch d ca q.chains.length cc (h.below hX.below) k hk
  have hdo := fun W' (hW' : Mod none' w W') => layDo_any k x1 x2 x3 x4 x5 d q ca cc (fun k => D k = 17 ∧ k < w.heap.size) (fun k => S' k ∧ k < w.heap.size) W' lb lm T s.l h.lok hT ((h.lay.sub (fun k hk h => ⟨h, hk⟩)).mod (F := none') hW' (fun _ _ _ => id)) ((hq.sub (fun k hk h => ⟨h, hk⟩)).mod (F := none') hW' (fun _ _ _ => id)) (fun k hk _ => ⟨fun e => hS k hk.1 hk.2 (by rw [e]; exact h.lay.sb), fun e => hS k hk.1 hk.2 (by rw [e]; exact h.lay.sm)⟩)
  have hu0 := h.lay.lt
  have hu1 := h.lay.map.lt
  unfold LayDoPost at hdo ⊢
  generalize hr : layDo s.l k q x3 x4 x5 = r at hdo ⊢
  obtain ⟨ra, us⟩ := r
  have HW := Lib.hid hW
  have HA := Lib.hid hab
  have HR := Lib.hid hrb
  have HX := Lib.hid hX
  have hzW := hX.size
  have hrb2 := hX.brb
  clear h hW hab hrb hX hr hq hS
  go_enter Tryz.func60, Tryz.ntmps60
  go_wp2_with fail
  rw [← HW.out, ← HR.out, ← HA.out]
  refine hak.mono ?_
  clear hak
  rintro e w1 ⟨rfl, hM1⟩
  have q0 := hM1.at HX.out.q0 id
  have q1 := hM1.at HX.out.q1 id
  have q2 := hM1.at HX.out.q2 id
  have q3 := hM1.at HX.out.q3 id
  have q4 := hM1.at HX.out.q4 id
  have q5 := hM1.at HX.out.q5 id
  have q6 := hM1.at HX.out.q6 id
  have q7 := hM1.at HX.out.q7 id
  have q8 := hM1.at HX.out.q8 id
  have HM1 := Lib.hid hM1
  clear hM1
  go_wp2_with fail
  refine (hdo w1 (by exact modC ((Mod.of_below HX.out.below).trans HM1.out))).mono ?_
  clear hdo q0 q1 q2 q3 q4 q5 q6 q7 q8
  rintro e w4 ⟨a4, c4, rfl, hl4, hU4, hM4'⟩
  have hM4 := (mod_none HM1.out).trans hM4'
  obtain ⟨g0, g1, g2, g3, g4, g5, g6, g7, f0, f1, f2, f3, f4, f5, f6, f7⟩ := HX.out.far hM4 (by omega)
  have hz1 := HM1.out.size
  have HU4 := Lib.hid hU4
  have HM4 := Lib.hid hM4
  have HL4 := Lib.hid hl4
  clear hU4 hM4 hM4' hl4
  simp only [ansL]
  go_wp2_with fail
  refine bodyPost_ret (v := ansL ra a4 c4) (by simp only [results, Tryz.results60, ansL]; go_simp) rfl ?_
  refine ⟨a4, c4, rfl, (HL4.out.mod (F := (· = rb)) (by exact modC (Mod.refl _ _)) (fun k hk _ e => ?_)).sub (fun k _ hk => ?_), (HU4.out.mod (F := (· = rb)) (by exact modC (Mod.refl _ _)) (fun k hk _ e => ?_)).sub (fun k _ hk => ?_), ?_⟩
  · have hk : w1.heap.size ≤ k := hk
    omega
  · have hk : w1.heap.size ≤ k := hk
    show w.heap.size ≤ k
    omega
  · rcases hk with hk | hk
    · have := hk.2; omega
    · omega
  · rcases hk with hk | hk
    · exact Or.inl hk.1
    · exact Or.inr (by omega)
  · refine (mod_none (Mod.of_below HX.out.below)).trans' (show Mod (fun j => j = rb ∨ j = lb ∨ j = lm) W _ from ?_) (fun j hj e => ?_)
    · repeat' (first | (with_reducible exact HM4.out.mono (fun _ _ h => Or.inr h)) | (with_reducible apply Mod.setCellAt) | (with_reducible apply Mod.drew) | (intro _; exact Or.inl rfl))
    · rcases e with e | e
      · omega
      · exact e
end
end Go.Proofs.YtghdhhbpbmhooaaGreat
/- what a row that grows leaves as it is -/
namespace Go.Proofs.YtghdhhbpbmhooaaGreat
open Go.RowKit Esch

theorem grown_mod2 {w w' : World} {row : Option Nat} (h : w.grownBy w' row) : Mod (fun j => row = some j) w w' :=
  ⟨h.os, h.tape, h.output, h.size, fun k hk hne => h.block k hk (fun e => hne e.symm)⟩
theorem grown_at {w w' : World} {row : Option Nat} (h : w.grownBy w' row) {b o : Nat} {v : Value} (hr : row ≠ some b) (hc : w.cell? ⟨b, o, none⟩ = some v) : w'.cell? ⟨b, o, none⟩ = some v := (grown_mod2 h).at hc hr
theorem grown_fr {w w' : World} {row : Option Nat} (h : w.grownBy w' row) {b o : Nat} (hr : row ≠ some b) (hb : b < w.heap.size) : w'.frozen? ⟨b, o, none⟩ = w.frozen? ⟨b, o, none⟩ := (grown_mod2 h).frozen (p := ⟨b, o, none⟩) hb hr
end Go.Proofs.YtghdhhbpbmhooaaGreat
/- all nodes together: made -/
namespace Go.Proofs.YtghdhhbpbmhooaaGreat
open Go.RowKit Esch

def un0 (room : Nat) : UnS := ⟨pg0 room, 0, false⟩
/-- nodes that are being made, so far k units -/
structure NewAt (w : World) (nb ob lb lm room : Nat) (q : Proj) (k : Nat) (va : Option Addr) (vc : Nat) (xs : List Value) (ub pb mb D : Nat → Nat) (wr : World) : Prop where
  c0 : wr.cell? ⟨nb, 0, none⟩ = some (.slice va k vc)
  f0 : wr.frozen? ⟨nb, 0, none⟩ = false
  c1 : wr.cell? ⟨nb, 1, none⟩ = some (.pointer (some ⟨ob, 0, none⟩))
  c2 : wr.cell? ⟨nb, 2, none⟩ = some (.pointer (some ⟨lb, 0, none⟩))
  row : wr.ownsRow (nb + 1) 88 1 (.slice va k vc) k xs
  xlen : xs.length = k
  xat : ∀ i, i < k → xs[i]? = some (.pointer (some ⟨ub i, 0, none⟩))
  unit : ∀ i, i < k → UnitAt wr (ub i) (pb i) (mb i) (un0 room)
  du : ∀ i, i < k → D (ub i) = i ∧ D (pb i) = i ∧ D (mb i) = i
  own : ∀ j, (Value.slice va k vc).ownBlock = some j → D j = 18
  ord : OrdAt wr ob ⟨-1, false, 0⟩
  dord : D ob = 16
  lay : LayAt (fun k => D k = 17) wr lb lm 16 (lay0 q)
  dn : D nb = 18
  old : ∀ j, j < w.heap.size + 1 → D j = 99
  box : wr.cell? ⟨w.heap.size, 0, none⟩ = some (.int .i64 q.epoch)
  below : Below w.heap.size w wr
theorem NewAt.ownLt {w : World} {nb ob lb lm room : Nat} {q : Proj} {k : Nat} {va : Option Addr} {vc : Nat} {xs : List Value} {ub pb mb D : Nat → Nat} {wr : World} (h : NewAt w nb ob lb lm room q k va vc xs ub pb mb D wr) {j : Nat} (hj : (Value.slice va k vc).ownBlock = some j) : nb < j ∧ j < wr.heap.size := by
  rcases h.row.2 with ⟨e, -⟩ | ⟨g, cap, cur, e, hb, hg, -⟩
  · cases e; cases hj
  · cases e
    have hj : g = j := Option.some.inj hj
    subst hj
    exact ⟨hb, block_lt hg⟩
theorem NewAt.step {w : World} {nb ob lb lm room : Nat} {q : Proj} {k : Nat} {va : Option Addr} {vc : Nat} {xs : List Value} {ub pb mb D : Nat → Nat} {wr w5 w8 : World} {u p m gg cap : Nat} {o : Obj} (h : NewAt w nb ob lb lm room q k va vc xs ub pb mb D wr) (hk : k < 16)
    (hB5 : Below wr.heap.size wr w5) (hu : UnitAt w5 u p m (un0 room)) (hu1 : wr.heap.size ≤ u) (hp1 : wr.heap.size ≤ p) (hm1 : wr.heap.size ≤ m)
    (hown1 : w8.ownsRow (nb + 1) 88 1 (.slice (some ⟨gg, 0, none⟩) (k + 1) cap) (k + 1) (xs ++ [.pointer (some ⟨u, 0, none⟩)])) (hgrow : (w5.alloc o).grownBy w8 (Value.slice va k vc).ownBlock) (hat : (Value.slice va k vc).ownBlock = some gg ∨ gg = w5.heap.size + 1) :
    NewAt w nb ob lb lm room q (k + 1) (some ⟨gg, 0, none⟩) cap (xs ++ [.pointer (some ⟨u, 0, none⟩)]) (fun i => if i = k then u else ub i) (fun i => if i = k then p else pb i) (fun i => if i = k then m else mb i)
      (fun j => if j < wr.heap.size then D j else if j < w5.heap.size then k else 18) (w8.setCell ⟨nb, 0, none⟩ (.slice (some ⟨gg, 0, none⟩) (k + 1) cap)) := by
  have hz := hB5.size
  have hnl := cell_lt h.c0
  have hon : (Value.slice va k vc).ownBlock ≠ some nb := fun e => by have := (h.ownLt e).1; omega
  have hM5 : Mod (fun j => j = nb ∨ (Value.slice va k vc).ownBlock = some j) w5 (w8.setCell ⟨nb, 0, none⟩ (.slice (some ⟨gg, 0, none⟩) (k + 1) cap)) :=
    ((((Mod.refl (fun j => j = nb ∨ (Value.slice va k vc).ownBlock = some j) w5).alloc o).trans ((grown_mod2 hgrow).mono (fun _ _ h => Or.inr h))).setCellAt (fun _ => Or.inl rfl) _)
  have hM : Mod (fun j => j = nb ∨ (Value.slice va k vc).ownBlock = some j) wr (w8.setCell ⟨nb, 0, none⟩ (.slice (some ⟨gg, 0, none⟩) (k + 1) cap)) := (mod_none (Mod.of_below hB5)).trans hM5
  have hF : ∀ j, D j ≠ 18 → ¬ (j = nb ∨ (Value.slice va k vc).ownBlock = some j) := by
    rintro j hj (rfl | e)
    · exact hj h.dn
    · exact hj (h.own j e)
  have hF5 : ∀ j, wr.heap.size ≤ j → ¬ (j = nb ∨ (Value.slice va k vc).ownBlock = some j) := by
    rintro j hj (rfl | e)
    · omega
    · have := (h.ownLt e).2; omega
  have hlt : ∀ {j : Nat}, j < wr.heap.size → (if j < wr.heap.size then D j else if j < w5.heap.size then k else 18) = D j := fun hj => if_pos hj
  have hnew : ∀ {j : Nat}, wr.heap.size ≤ j → j < w5.heap.size → (if j < wr.heap.size then D j else if j < w5.heap.size then k else 18) = k := fun h1 h2 => by rw [if_neg (by omega), if_pos h2]
  have hgz := hgrow.size
  simp only [World.size_alloc] at hgz
  have c1 := hgrow
  have hgq : gg ≠ nb := by
    rcases hat with e | e
    · intro e'; exact hon (by rw [e, e'])
    · omega
  have n8 : nb < w8.heap.size := by omega
  have d1 : w8.cell? ⟨nb, 1, none⟩ = some (.pointer (some ⟨ob, 0, none⟩)) := grown_at hgrow hon ((cell_alloc_lt _ _ _ _ (by omega)).trans (below_at hB5 h.c1 hnl))
  have d2 : w8.cell? ⟨nb, 2, none⟩ = some (.pointer (some ⟨lb, 0, none⟩)) := grown_at hgrow hon ((cell_alloc_lt _ _ _ _ (by omega)).trans (below_at hB5 h.c2 hnl))
  have d0 : w8.cell? ⟨nb, 0, none⟩ = some (.slice va k vc) := grown_at hgrow hon ((cell_alloc_lt _ _ _ _ (by omega)).trans (below_at hB5 h.c0 hnl))
  have e0 : w8.frozen? ⟨nb, 0, none⟩ = false := (grown_fr hgrow hon (by rw [World.size_alloc]; omega)).trans ((frozen_alloc_lt _ _ _ _ (by omega)).trans ((hB5.frozen (p := ⟨nb, 0, none⟩) hnl).trans h.f0))
  have hul := cell_lt hu.c0
  have hpl := cell_lt hu.pages.c0
  have hml := hu.pages.mlt
  refine ⟨by go_simp, by go_simp, by go_simp, by go_simp, ?_, by simp [h.xlen], fun i hi => ?_, fun i hi => ?_, fun i hi => ?_, fun j hj => ?_, h.ord.mod hM (hF ob (by rw [h.dord]; omega)), ?_, ?_, ?_, fun j hj => ?_, hM.at h.box (hF _ (by rw [h.old _ (by omega)]; omega)), ?_⟩
  · refine hown1.kept (grownBy_set _ _ _ _) (Or.inr ?_)
    intro e; exact hgq (Option.some.inj e)
  · by_cases e : i = k
    · subst e
      rw [if_pos rfl, ← h.xlen]
      simp
    · rw [if_neg e, List.getElem?_append_left (by rw [h.xlen]; omega)]
      exact h.xat i (by omega)
  · by_cases e : i = k
    · subst e
      simp only [if_true]
      exact hu.mod hM5 (hF5 _ hu1) (hF5 _ hp1) (hF5 _ hm1)
    · simp only [if_neg e]
      obtain ⟨e1, e2, e3⟩ := h.du i (by omega)
      exact (h.unit i (by omega)).mod hM (hF _ (by omega)) (hF _ (by omega)) (hF _ (by omega))
  · by_cases e : i = k
    · subst e
      simp only [if_true]
      exact ⟨hnew hu1 hul, hnew hp1 hpl, hnew hm1 hml⟩
    · simp only [if_neg e]
      have hu' := h.unit i (by omega)
      rw [hlt (cell_lt hu'.c0), hlt (cell_lt hu'.pages.c0), hlt hu'.pages.mlt]
      exact h.du i (by omega)
  · have hj : gg = j := Option.some.inj hj
    subst hj
    rcases hat with e | e
    · rw [hlt (h.ownLt e).2]; exact h.own _ e
    · rw [if_neg (by omega), if_neg (by omega)]
  · rw [hlt h.ord.lt]; exact h.dord
  · refine LayAt.mod (h.lay.sub (fun j hj hd => ?_)) hM (fun j hj hl => hF j ?_)
    · show (if j < wr.heap.size then D j else if j < w5.heap.size then k else 18) = 17
      rw [hlt hj]; exact hd
    · have hj : (if j < wr.heap.size then D j else if j < w5.heap.size then k else 18) = 17 := hj
      rw [hlt hl] at hj
      omega
  · rw [hlt hnl]; exact h.dn
  · rw [hlt (by have := cell_lt h.box; omega)]; exact h.old j hj
  · exact h.below.trans (hM.below_at h.below.size (fun j hj e => by
      rcases e with rfl | e
      · have := h.old j (by omega); rw [h.dn] at this; omega
      · have := h.old j (by omega); rw [h.own j e] at this; omega))
end Go.Proofs.YtghdhhbpbmhooaaGreat
/- all nodes together: New -/
namespace Go.Proofs.YtghdhhbpbmhooaaGreat
open Go.RowKit Esch

def nd0 (q : Proj) (room : Nat) : NdS := ⟨fun _ => un0 room, ⟨q.epoch, true, 0⟩, lay0 q⟩
def NdNew (w : World) (q : Proj) (room : Nat) (e : Ending) (w' : World) : Prop := ∃ nb g cap ob lb lm ub pb mb D, e = .returned (.tuple #[.pointer (some ⟨nb, 0, none⟩), .int .i64 0]) ∧ NodesAt w' nb g cap ob lb lm 16 ub pb mb D (nd0 q room) ∧ (∀ j, j < w.heap.size → D j = 99) ∧ Below w.heap.size w w'
def NewRel (w : World) (nb ob lb lm room : Nat) (q : Proj) (g : Nat) (s23 : Value) (wr : World) : Prop :=
  ∃ k va vc xs ub pb mb D, g = 16 - k ∧ k ≤ 16 ∧ s23 = .int .i64 (k : Nat) ∧ NewAt w nb ob lb lm room q k va vc xs ub pb mb D wr
set_option maxRecDepth 100000 in
set_option maxHeartbeats 2000000 in
theorem rpcNew_any (S : Nat → Prop) (w : World) (q : Proj) (a : Option Addr) (c room : Nat) (hq : q.good) (hl : ListsAt S w a q.chains) (h1 : 1 ≤ room) (h2 : room ≤ 4096) :
    Calls Tryz.prog 56 #[.agg #[.int .i64 q.epoch, .slice a q.chains.length c], .int .i64 room] w (NdNew w q room) := by
  obtain ⟨W0, hW0, hB0, hz0, p0, p1⟩ := oneBox w 24 (.int .i64 q.epoch) (.slice a q.chains.length c)
  have hln := layNew_any S W0 q a c hq (hl.mod (F := none') (Mod.of_below hB0) (fun _ _ _ => id))
  have HW0 := Lib.hid hW0
  have Hq := Lib.hid hq
  clear hW0 hl hq
  go_enter Tryz.func56, Tryz.ntmps56
  go_wp2_with fail
  rw [← HW0.out]
  refine hln.mono ?_
  clear hln
  rintro e w1 ⟨lb, lm, rfl, hL1, hB1⟩
  have hz1 := hB1.size
  have hon := ordNew_any w1
  go_wp2_with fail
  refine hon.mono ?_
  clear hon
  rintro e w2 ⟨ob, rfl, hO2, hob, hB2⟩
  have hz2 := hB2.size
  have hol := hO2.lt
  obtain ⟨nb, hnb⟩ : ∃ nb, nb = w2.heap.size := ⟨_, rfl⟩
  obtain ⟨W3, hW3⟩ : ∃ W3, W3 = w2.alloc (.cells #[.slice none 0 0, .pointer (some ⟨ob, 0, none⟩), .pointer (some ⟨lb, 0, none⟩)] 119) := ⟨_, rfl⟩
  have hB3 : Below w2.heap.size w2 W3 := by rw [hW3]; exact belC (Below.refl _ _)
  have hz3 : W3.heap.size = w2.heap.size + 1 := by rw [hW3]; simp
  have hN0 : NewAt w nb ob lb lm room q 0 none 0 [] (fun _ => 0) (fun _ => 0) (fun _ => 0) (fun j => if j < w.heap.size + 1 then 99 else if j < w1.heap.size then 17 else if j < w2.heap.size then 16 else 18) W3 := by
    refine ⟨by rw [hW3, hnb]; go_simp, by rw [hW3, hnb]; go_simp, by rw [hW3, hnb]; go_simp, by rw [hW3, hnb]; go_simp, World.ownsRow_nil _ _ _ _, rfl, fun i hi => absurd hi (by omega), fun i hi => absurd hi (by omega), fun i hi => absurd hi (by omega), fun j hj => (by cases hj), hO2.mod (F := none') (Mod.of_below hB3) id, ?_, ?_, ?_, fun j hj => if_pos hj, ?_, ?_⟩
    · rw [if_neg (by omega), if_neg (by omega), if_pos hol]
    · refine LayAt.sub (LayAt.mod (LayAt.sub hL1 (S' := fun k => W0.heap.size ≤ k ∧ k < w1.heap.size) (fun k hk h => ⟨h, hk⟩)) (F := none') ((Mod.of_below hB2).trans (Mod.of_below hB3)) (fun _ _ _ => id)) (fun k _ hk => ?_)
      show (if k < w.heap.size + 1 then 99 else if k < w1.heap.size then 17 else if k < w2.heap.size then 16 else 18) = 17
      rw [if_neg (by omega), if_pos hk.2]
    · rw [if_neg (by omega), if_neg (by omega), if_neg (by omega)]
    · exact below_at hB3 (below_at hB2 (below_at hB1 p0 (by omega)) (by omega)) (by omega)
    · exact hB0.trans ((hB1.trans ((hB2.trans (hB3.mono hz2)).mono hz1)).mono (by omega))
  have HN0 := Lib.hid hN0
  have HW3 := Lib.hid hW3
  have Hnb := Lib.hid hnb
  obtain ⟨i0, hi, hy0, hy1, hy2⟩ := info_parts (show (Tryz.prog.info? 88).map (fun i => (i.zero, i.size, i.bytes)) = some (some (.pointer none), 1, 8) by kernel_rfl)
  have hr1 : (1 : Int) ≤ room := by omega
  have hr2 : (room : Int) ≤ 4096 := by omega
  clear hN0 hW3 hnb hB3 hB2 hB1 hL1 hO2 p0 p1
  go_wp2_with fail
  rw [← HW3.out, ← Hnb.out]
  go_loopg [23] 16 (fun g s23 wr => NewRel w nb ob lb lm room q g s23 wr)
  case atStart => exact ⟨0, none, 0, [], _, _, _, _, rfl, by omega, rfl, HN0.out⟩
  case round =>
    obtain ⟨k, va, vc, xs, ub, pb, mb, D, rfl, hk, rfl, hN⟩ := hrel
    have HN := Lib.hid hN
    have c0 := hN.c0
    have f0 := hN.f0
    have c1 := hN.c1
    have bx := hN.box
    have hnl := cell_lt hN.c0
    by_cases hlt : k < 16
    · have hun := unNew_any wr room h1 h2
      have hrow := Lib.hid hN.row
      have hon : (Value.slice va k vc).ownBlock ≠ some nb := fun e => by have := (hN.ownLt e).1; omega
      have Hon := Lib.hid hon
      clear hN bx c1 hon
      go_wp2_with fail
      refine hun.mono ?_
      clear hun
      rintro e w5 ⟨u, p, m, rfl, hu, hu1, hp1, hm1, hB5⟩
      have hz5 := hB5.size
      replace c0 := below_at hB5 c0 hnl
      replace f0 := (hB5.frozen (p := ⟨nb, 0, none⟩) hnl).trans f0
      have HU := Lib.hid hu
      have HB5 := Lib.hid hB5
      have hn5 : nb < w5.heap.size := by omega
      clear hu hB5
      go_wp2_with (at_builtin; refine wpList_append_lies _ (by rfl) _ _ _ (by rfl) (nb + 1) 88 i0 _ 1 8 Tryz.underlying116 hi hy0 hy1 hy2 rfl (by omega) (.slice va k vc) k xs (by rfl) ((own_below hrow.out HB5.out).alloc _) ⟨w5.heap.size, 0, none⟩ 1 1 [.pointer (some ⟨u, 0, none⟩)] (by rfl) (by rfl) (World.news_of_block (cs := #[.pointer (some ⟨u, 0, none⟩)]) (t := 88) (fr := (0, 0)) (heap_alloc_new _ _)) (by simp [Value.oneCell']) (by omega) (by unfold Go.maxLen; omega) (by omega) (by simp; omega) (w5.heap.size + 1) (by simp) ?_; intro gg cap w8 hown1 hgrow hat hlt4; have hc8 := (grown_at hgrow (Hon.out) ((cell_alloc_lt w5 _ nb 0 hn5).trans c0)); have hf8 := (grown_fr hgrow (Hon.out) (by rw [World.size_alloc]; omega)).trans ((frozen_alloc_lt w5 _ nb 0 hn5).trans f0))
      have hS := Lib.hid (HN.out.step (o := .cells #[.pointer (some ⟨u, 0, none⟩)] 88) hlt HB5.out HU.out hu1 hp1 hm1 hown1 hgrow hat)
      clear hown1 hgrow hat hc8 hf8
      go_roundg (16 - (k + 1))
      case measure => omega
      case rel => exact ⟨k + 1, some ⟨gg, 0, none⟩, cap, _, _, _, _, _, rfl, by omega, by go_num, hS.out⟩
    · obtain rfl : k = 16 := by omega
      have hod := fun W (hW : Mod none' wr W) => ordDo_any 0 q.epoch 0 0 0 ⟨#[]⟩ 0 none 0 0 8 W ob ⟨-1, false, 0⟩ (by unfold Ord.ok; decide) (hN.ord.mod (F := none') hW id)
      clear hlt hN
      go_wp2_with fail
      refine region_tail 7 (by kernel_rfl) (by kernel_rfl) (fun T hT K hK => ?_)
      simp only [List.take_succ_cons, List.take_zero]
      repeat still_step
      refine wpStill_nil (hK _ ?_)
      clear hK
      simp only [List.drop_succ_cons, List.drop_zero] at hT
      subst hT
      go_wp2_with fail
      refine (hod _ (by exact modC (Mod.refl _ _))).mono ?_
      clear hod
      rintro e w6 ⟨rfl, hO6, hM6'⟩
      have hM6 : Mod (· = ob) wr w6 := ((Mod.refl _ wr).drew).trans hM6'
      have hst : (ordDo ⟨-1, false, 0⟩ 8 q.epoch 0).2.2 = ⟨q.epoch, true, 0⟩ := by
        have := Hq.out.1
        unfold ordDo ordStart
        rw [if_pos rfl, if_neg (by show ¬ q.epoch ≤ -1; omega), if_neg (by omega)]
      rw [hst] at hO6
      have HO6 := Lib.hid hO6
      have HM6 := Lib.hid hM6
      clear hO6 hM6 hM6' hst c0 c1 f0 bx
      go_wp2_with fail
      go_ret2
      have hN := HN.out
      obtain ⟨gg, cap, hva, hvc⟩ : ∃ gg, va = some ⟨gg, 0, none⟩ ∧ D gg = 18 ∧ ∀ i, i < 16 → wr.cell? ⟨gg, i, none⟩ = some (.pointer (some ⟨ub i, 0, none⟩)) := by
        rcases hN.row.2 with ⟨e, h0⟩ | ⟨g, cap, cur, e, hb, hg, hr⟩
        · omega
        · cases e
          refine ⟨g, rfl, hN.own g rfl, fun i hi => ?_⟩
          have hx := hN.row.cells (g := g) rfl i _ (hN.xat i hi)
          rwa [show ((⟨g, 0, none⟩ : Addr).add i) = ⟨g, i, none⟩ from by unfold Addr.add; by_cases e : i = 0 <;> simp [e]] at hx
      subst cap
      have hF : ∀ k, D k ≠ 16 → ¬ (k = ob) := fun k hk e => hk (by rw [e]; exact hN.dord)
      refine ⟨nb, gg, vc, ob, lb, lm, ub, pb, mb, D, rfl, ⟨HM6.out.at hN.c0 (hF _ (by rw [hN.dn]; omega)), HM6.out.at hN.c1 (hF _ (by rw [hN.dn]; omega)), HM6.out.at hN.c2 (hF _ (by rw [hN.dn]; omega)), fun i hi => HM6.out.at (hvc i hi) (hF _ (by rw [hva]; omega)), fun i hi => ?_, hN.du, HO6.out, ?_, hN.dord, hN.lay.mod HM6.out (fun k hk _ => hF k (by rw [show D k = 17 from hk]; omega)), lay0_ok Hq.out, hN.dn, hva⟩, fun j hj => hN.old j (by omega), hN.below.trans (HM6.out.below_at hN.below.size (fun j hj e => ?_))⟩
      · obtain ⟨e1, e2, e3⟩ := hN.du i hi
        exact ⟨(hN.unit i hi).mod HM6.out (hF _ (by omega)) (hF _ (by omega)) (hF _ (by omega)), pg0_ok h2⟩
      · exact ⟨Int.le_refl _, by show (0 : Int) ≤ 16384; omega⟩
      · have := hN.old j (by omega)
        rw [e, hN.dord] at this
        omega
end Go.Proofs.YtghdhhbpbmhooaaGreat
/- all nodes together: a unit that there is not -/
namespace Go.Proofs.YtghdhhbpbmhooaaGreat
open Go.RowKit Esch

variable {w : World} {nb g cap ob lb lm T : Nat} {ub pb mb D : Nat → Nat} {s : NdS}
section
variable (x1 x2 x3 x4 x5 x7 : Int) (d : ByteArray) (ca : Option Addr) (cn cc : Nat)
set_option maxRecDepth 100000 in
set_option maxHeartbeats 1000000 in
theorem unDo_nil (w : World) (k : Int) : Calls Tryz.prog 94 #[.pointer none, .agg #[.int .i64 k, .int .i64 x1, .int .i64 x2, .int .i64 x3, .int .i64 x4, .int .i64 x5, .string d, .int .i64 x7, .slice ca cn cc]] w
    fun e w' => e = .returned (ansU 1 0 ⟨#[]⟩ 0) ∧ Below w.heap.size w w' := by
  go_enter Tryz.func94, Tryz.ntmps94
  go_wp2_with fail
  refine bodyPost_ret (v := ansU 1 0 ⟨#[]⟩ 0) (by simp only [results, Tryz.results94, ansU]; go_simp) rfl ?_
  exact ⟨rfl, by exact belC (Below.refl _ _)⟩
set_option maxRecDepth 100000 in
set_option maxHeartbeats 2000000 in
theorem rpcDo_out (h : NodesAt w nb g cap ob lb lm T ub pb mb D s) (hx : x1 < 0 ∨ 16 ≤ x1) (k : Int) (hk : k = 1 ∨ k = 2 ∨ k = 3 ∨ k = 4 ∨ k = 5) :
    Calls Tryz.prog 60 #[.pointer (some ⟨nb, 0, none⟩), .agg #[.int .i64 k, .int .i64 x1, .int .i64 x2, .int .i64 x3, .int .i64 x4, .int .i64 x5, .string d, .int .i64 x7, .slice ca cn cc]] w
    fun e w' => e = .returned (ansU 1 0 ⟨#[]⟩ 0) ∧ Below w.heap.size w w' := by
  obtain ⟨W, hW, ab, rb, hab, hrb, hX⟩ : ∃ W, W = _ ∧ ∃ ab rb, ab = w.heap.size ∧ rb = w.heap.size + 1 ∧ Boxed2 w W ab rb (.int .i64 k) (.int .i64 x1) (.int .i64 x2) (.int .i64 x3) (.int .i64 x4) (.int .i64 x5) (.string d) (.int .i64 x7) (.slice ca cn cc) := ⟨_, rfl, _, _, rfl, rfl, boxed2 w _ _ _ _ _ _ _ _ _⟩
  have hak := asked_unit (w := W) x1 x2 x3 x4 x5 x7 d ca cn cc (.pointer (some ⟨nb, 0, none⟩)) (.pointer none) (fun W' hW' => rpcUnit_out ((h.below hX.below).mod (F := none') hW' (fun _ _ _ => id)) x1 hx) k hk
  have hdo := fun W' => unDo_nil x1 x2 x3 x4 x5 x7 d ca cn cc W' k
  have HW := Lib.hid hW
  have HA := Lib.hid hab
  have HR := Lib.hid hrb
  have HX := Lib.hid hX
  have hzW := hX.size
  have hrb2 := hX.brb
  clear h hW hab hrb hX
  go_enter Tryz.func60, Tryz.ntmps60
  go_wp2_with fail
  rw [← HW.out, ← HR.out, ← HA.out]
  refine hak.mono ?_
  clear hak
  rintro e w1 ⟨rfl, hM1⟩
  have q0 := hM1.at HX.out.q0 id
  have q1 := hM1.at HX.out.q1 id
  have q2 := hM1.at HX.out.q2 id
  have q3 := hM1.at HX.out.q3 id
  have q4 := hM1.at HX.out.q4 id
  have q5 := hM1.at HX.out.q5 id
  have q6 := hM1.at HX.out.q6 id
  have q7 := hM1.at HX.out.q7 id
  have q8 := hM1.at HX.out.q8 id
  have HM1 := Lib.hid hM1
  clear hM1
  go_wp2_with fail
  refine (hdo w1).mono ?_
  clear hdo q0 q1 q2 q3 q4 q5 q6 q7 q8
  rintro e w4 ⟨rfl, hB4'⟩
  have hM4 : Mod none' W w4 := HM1.out.trans (Mod.of_below hB4')
  obtain ⟨g0, g1, g2, g3, g4, g5, g6, g7, f0, f1, f2, f3, f4, f5, f6, f7⟩ := HX.out.far hM4 id
  have HB4 := Lib.hid (HX.out.below.trans (hM4.below.mono HX.out.below.size))
  clear hM4 hB4'
  simp only [ansU]
  go_wp2_with fail
  refine bodyPost_ret (v := ansU 1 0 ⟨#[]⟩ 0) (by simp only [results, Tryz.results60, ansU]; go_simp) rfl ?_
  exact ⟨rfl, by exact belC HB4.out⟩
end
end Go.Proofs.YtghdhhbpbmhooaaGreat
/- all nodes together, by one word: what a question comes to -/
namespace Go.Proofs.YtghdhhbpbmhooaaGreat
open Go.RowKit Esch

/-- a question, an answer, in plain Lean -/
structure QS where
  kind : Int
  unit : Int
  epoch : Int
  page : Int
  size : Int
  n : Int
  data : ByteArray
  p : Proj
structure AnS where
  code : Int
  n : Int
  data : ByteArray
  p : Proj
  mark : Int
  size : Int
  epoch : Int
@[simp] def qV (q : QS) (a : Option Addr) (c : Nat) : Value := .agg #[.int .i64 q.kind, .int .i64 q.unit, .int .i64 q.epoch, .int .i64 q.page, .int .i64 q.size, .int .i64 q.n, .string q.data, .int .i64 q.p.epoch, .slice a q.p.chains.length c]
@[simp] def aV (x : AnS) (a : Option Addr) (c : Nat) : Value := .agg #[.int .i64 x.code, .int .i64 x.n, .string x.data, .int .i64 x.p.epoch, .slice a x.p.chains.length c, .int .i64 x.mark, .int .i64 x.size, .int .i64 x.epoch]
@[simp] def an0 : AnS := ⟨0, 0, ⟨#[]⟩, p0, 0, 0, 0⟩
@[simp] def anE : AnS := ⟨1, 0, ⟨#[]⟩, p0, 0, 0, 0⟩
def q0 (kind epoch : Int) : QS := ⟨kind, 0, epoch, 0, 0, 0, ⟨#[]⟩, p0⟩
def NdS.«do» (s : NdS) (q : QS) : AnS × NdS :=
  if 1 ≤ q.kind ∧ q.kind ≤ 5 then
    if 0 ≤ q.unit ∧ q.unit < 16 then
      (⟨((s.units q.unit.toNat).do q.kind q.epoch q.page q.data).1.1, ((s.units q.unit.toNat).do q.kind q.epoch q.page q.data).1.2.1, ((s.units q.unit.toNat).do q.kind q.epoch q.page q.data).1.2.2.1, p0, 0, 0, ((s.units q.unit.toNat).do q.kind q.epoch q.page q.data).1.2.2.2⟩,
        { s with units := fun j => if j = q.unit.toNat then ((s.units q.unit.toNat).do q.kind q.epoch q.page q.data).2 else s.units j })
    else (anE, s)
  else if 6 ≤ q.kind ∧ q.kind ≤ 8 then
    (⟨(ordDo s.o q.kind q.epoch q.page).1, (ordDo s.o q.kind q.epoch q.page).2.1, ⟨#[]⟩, p0, 0, 0, (ordDo s.o q.kind q.epoch q.page).2.2.epoch⟩, { s with o := (ordDo s.o q.kind q.epoch q.page).2.2 })
  else if 9 ≤ q.kind ∧ q.kind ≤ 11 then
    (⟨(layDo s.l q.kind q.p q.page q.size q.n).1.code, (layDo s.l q.kind q.p q.page q.size q.n).1.n, ⟨#[]⟩, (layDo s.l q.kind q.p q.page q.size q.n).1.p, (layDo s.l q.kind q.p q.page q.size q.n).1.mark, (layDo s.l q.kind q.p q.page q.size q.n).1.size, 0⟩,
      { s with l := (layDo s.l q.kind q.p q.page q.size q.n).2 })
  else (anE, s)
/-- a unit's pages stay good -/
theorem UnS.do_good {s : UnS} (h : s.pg.ok) (k ep page : Int) (d : ByteArray) : (s.do k ep page d).2.pg.ok := by
  unfold UnS.do
  split
  · exact h
  · split
    · exact h
    · split
      · exact h
      · split
        · exact h.write_ok _ _
        · split
          · exact h.fill_ok _
          · split
            · exact h
            · split
              · exact h.trim_ok _
              · exact h
/-- the blocks that are new -/
def grow (U : Nat → Prop) (w w' : World) : Nat → Prop := fun k => U k ∨ (w.heap.size ≤ k ∧ k < w'.heap.size)
/-- the labels of blocks that are not there do not matter -/
theorem NodesAt.relabel {w : World} {nb g cap ob lb lm T : Nat} {ub pb mb D D' : Nat → Nat} {s : NdS} (h : NodesAt w nb g cap ob lb lm T ub pb mb D s) (hD : ∀ k, k < w.heap.size → D' k = D k) : NodesAt w nb g cap ob lb lm T ub pb mb D' s := by
  refine ⟨h.c0, h.c1, h.c2, h.row, h.unit, fun i hi => ?_, h.ord, h.ook, ?_, h.lay.sub (fun k hk e => ?_), h.lok, ?_, ?_⟩
  · obtain ⟨d1, d2, d3⟩ := h.du i hi
    have hu := (h.unit i hi).1
    rw [hD _ (cell_lt hu.c0), hD _ (cell_lt hu.pages.c0), hD _ hu.pages.mlt]
    exact ⟨d1, d2, d3⟩
  · rw [hD _ h.ord.lt]; exact h.dord
  · show D' k = 17
    rw [hD _ hk]; exact e
  · rw [hD _ (cell_lt h.c0)]; exact h.dn
  · rw [hD _ (cell_lt (h.row 0 (by omega)))]; exact h.dg
/-- nodes, all of whose blocks are in U -/
structure Nd (w : World) (nb : Nat) (U : Nat → Prop) (T : Nat) (s : NdS) : Prop where
  at' : ∃ g cap ob lb lm ub pb mb D, NodesAt w nb g cap ob lb lm T ub pb mb D s ∧ ∀ k, k < w.heap.size → D k ≤ 18 → U k
  lt : ∀ k, U k → k < w.heap.size
theorem Nd.mod {F U : Nat → Prop} {w w' : World} {nb T : Nat} {s : NdS} (h : Nd w nb U T s) (hM : Mod F w w') (hF : ∀ k, U k → ¬ F k) : Nd w' nb U T s := by
  obtain ⟨⟨g, cap, ob, lb, lm, ub, pb, mb, D, hN, hU⟩, hlt⟩ := h
  have hz := hM.size
  refine ⟨⟨g, cap, ob, lb, lm, ub, pb, mb, fun k => if k < w.heap.size then D k else 99, ?_, fun k hk hd => ?_⟩, fun k hk => Nat.lt_of_lt_of_le (hlt k hk) hz⟩
  · refine (NodesAt.relabel hN (fun k hk => if_pos hk)).mod hM (fun k hk hd => ?_)
    simp only [if_pos hk] at hd
    exact hF k (hU k hk hd)
  · by_cases e : k < w.heap.size
    · simp only [if_pos e] at hd; exact hU k e hd
    · simp only [if_neg e] at hd; omega
theorem Nd.below {U : Nat → Prop} {w w' : World} {nb T : Nat} {s : NdS} (h : Nd w nb U T s) (hB : Below w.heap.size w w') : Nd w' nb U T s := h.mod (F := none') (Mod.of_below hB) (fun _ _ => id)
theorem Nd.mono {U : Nat → Prop} {w : World} {nb T T' : Nat} {s : NdS} (h : Nd w nb U T s) (hT : T ≤ T') : Nd w nb U T' s := by
  obtain ⟨⟨g, cap, ob, lb, lm, ub, pb, mb, D, hN, hU⟩, hlt⟩ := h
  exact ⟨⟨g, cap, ob, lb, lm, ub, pb, mb, D, { hN with lay := hN.lay.mono hT }, hU⟩, hlt⟩
theorem Nd.sub {U V : Nat → Prop} {w : World} {nb T : Nat} {s : NdS} (h : Nd w nb U T s) (hV : ∀ k, k < w.heap.size → U k → V k) (hl : ∀ k, V k → k < w.heap.size) : Nd w nb V T s := by
  obtain ⟨⟨g, cap, ob, lb, lm, ub, pb, mb, D, hN, hU⟩, hlt⟩ := h
  exact ⟨⟨g, cap, ob, lb, lm, ub, pb, mb, D, hN, fun k hk hd => hV k hk (hU k hk hd)⟩, hl⟩
theorem Nd.grow {U : Nat → Prop} {w w0 : World} {nb T : Nat} {s : NdS} (h : Nd w nb U T s) : Nd w nb (grow U w0 w) T s := h.sub (fun _ _ hk => Or.inl hk) (fun k hk => hk.elim (h.lt k) (·.2))
/-- what becomes of a question: the answer, the nodes behind it, and that nothing else has changed -/
def NdPost (w : World) (nb : Nat) (U : Nat → Prop) (T : Nat) (r : AnS × NdS) (e : Ending) (w' : World) : Prop :=
  ∃ a c, e = .returned (aV r.1 a c) ∧ ListsAt (From w.heap.size) w' a r.1.p.chains ∧ Nd w' nb (grow U w w') (T + 16) r.2 ∧ Mod U w w'
theorem nd_unit {s : NdS} {q : QS} {i : Nat} (hk : 1 ≤ q.kind ∧ q.kind ≤ 5) (hu : q.unit = i) (hi : i < 16) : s.do q = (⟨((s.units i).do q.kind q.epoch q.page q.data).1.1, ((s.units i).do q.kind q.epoch q.page q.data).1.2.1, ((s.units i).do q.kind q.epoch q.page q.data).1.2.2.1, p0, 0, 0, ((s.units i).do q.kind q.epoch q.page q.data).1.2.2.2⟩,
    { s with units := fun j => if j = i then ((s.units i).do q.kind q.epoch q.page q.data).2 else s.units j }) := by
  unfold NdS.do
  rw [if_pos hk, if_pos (by omega), show q.unit.toNat = i by omega]
theorem rpcDo_all {w : World} {nb T : Nat} {U : Nat → Prop} {s : NdS} (q : QS) (ca : Option Addr) (cc : Nat) (h : Nd w nb U T s) (hT : T ≤ 1000000000) (hd : q.data.size ≤ 9223372036854775807) (S' : Nat → Prop) (hq : ListsAt S' w ca q.p.chains) (hS : ∀ k, S' k → k < w.heap.size → ¬ U k) :
    Calls Tryz.prog 60 #[.pointer (some ⟨nb, 0, none⟩), qV q ca cc] w (NdPost w nb U T (s.do q)) := by
  obtain ⟨⟨g, cap, ob, lb, lm, ub, pb, mb, D, hN, hU⟩, hlt⟩ := h
  by_cases hk : 1 ≤ q.kind ∧ q.kind ≤ 5
  · have hk' : q.kind = 1 ∨ q.kind = 2 ∨ q.kind = 3 ∨ q.kind = 4 ∨ q.kind = 5 := by omega
    by_cases hu : 0 ≤ q.unit ∧ q.unit < 16
    · obtain ⟨i, hqi⟩ : ∃ i : Nat, q.unit = i := ⟨q.unit.toNat, by omega⟩
      have hi : i < 16 := by omega
      rw [nd_unit hk hqi hi]
      simp only [qV]
      rw [hqi]
      have hok := UnS.do_good (hN.unit i hi).2 q.kind q.epoch q.page q.data
      obtain ⟨d1, d2, d3⟩ := hN.du i hi
      have k1 := cell_lt (hN.unit i hi).1.c0
      have k2 := cell_lt (hN.unit i hi).1.pages.c0
      have k3 := (hN.unit i hi).1.pages.mlt
      refine (rpcDo_unit q.epoch q.page q.size q.n q.p.epoch q.data ca q.p.chains.length cc hN i hi q.kind hk' hd).mono ?_
      rintro e w' ⟨rfl, hU', hM⟩
      have hz := hM.size
      have hM' : Mod U w w' := hM.mono (fun k _ e => by rcases e with rfl | rfl | rfl <;> exact hU _ (by assumption) (by omega))
      refine ⟨none, 0, rfl, ListsAt.nil _ _ _, ⟨⟨g, cap, ob, lb, lm, ub, pb, mb, D, ?_, fun k hk hd => ?_⟩, fun k hk => hk.elim (fun h => Nat.lt_of_lt_of_le (hlt k h) hz) (·.2)⟩, hM'⟩
      · have := hN.setUnit hi hU' hok hM
        exact { this with lay := this.lay.mono (by omega) }
      · by_cases e : k < w.heap.size
        · exact Or.inl (hU k e hd)
        · exact Or.inr ⟨by omega, hk⟩
    · have hr : s.do q = (anE, s) := by unfold NdS.do; rw [if_pos hk, if_neg hu]
      rw [hr]
      refine (rpcDo_out q.unit q.epoch q.page q.size q.n q.p.epoch q.data ca q.p.chains.length cc hN (by omega) q.kind hk').mono ?_
      rintro e w' ⟨rfl, hB⟩
      exact ⟨none, 0, rfl, ListsAt.nil _ _ _, ((((Nd.mk ⟨g, cap, ob, lb, lm, ub, pb, mb, D, hN, hU⟩ hlt).below hB).mono (by omega)).grow), Mod.of_below hB⟩
  · by_cases hk2 : 6 ≤ q.kind ∧ q.kind ≤ 8
    · have hr : s.do q = (⟨(ordDo s.o q.kind q.epoch q.page).1, (ordDo s.o q.kind q.epoch q.page).2.1, ⟨#[]⟩, p0, 0, 0, (ordDo s.o q.kind q.epoch q.page).2.2.epoch⟩, { s with o := (ordDo s.o q.kind q.epoch q.page).2.2 }) := by unfold NdS.do; rw [if_neg hk, if_pos hk2]
      rw [hr]
      refine (rpcDo_ord q.unit q.epoch q.page q.size q.n q.p.epoch q.data ca q.p.chains.length cc hN q.kind (by omega)).mono ?_
      rintro e w' ⟨rfl, hO, hM⟩
      have hz := hM.size
      have hol := hN.ord.lt
      have hM' : Mod U w w' := hM.mono (fun k _ e => by subst e; exact hU _ hol (by rw [hN.dord]; omega))
      refine ⟨none, 0, rfl, ListsAt.nil _ _ _, ⟨⟨g, cap, ob, lb, lm, ub, pb, mb, D, ?_, fun k hk hd => ?_⟩, fun k hk => hk.elim (fun h => Nat.lt_of_lt_of_le (hlt k h) hz) (·.2)⟩, hM'⟩
      · have := hN.setOrd hO (ordDo_ok hN.ook q.kind q.epoch q.page) hM
        exact { this with lay := this.lay.mono (by omega) }
      · by_cases e : k < w.heap.size
        · exact Or.inl (hU k e hd)
        · exact Or.inr ⟨by omega, hk⟩
    · by_cases hk3 : 9 ≤ q.kind ∧ q.kind ≤ 11
      · have hr : s.do q = (⟨(layDo s.l q.kind q.p q.page q.size q.n).1.code, (layDo s.l q.kind q.p q.page q.size q.n).1.n, ⟨#[]⟩, (layDo s.l q.kind q.p q.page q.size q.n).1.p, (layDo s.l q.kind q.p q.page q.size q.n).1.mark, (layDo s.l q.kind q.p q.page q.size q.n).1.size, 0⟩,
            { s with l := (layDo s.l q.kind q.p q.page q.size q.n).2 }) := by unfold NdS.do; rw [if_neg hk, if_neg hk2, if_pos hk3]
        rw [hr]
        refine (rpcDo_lay q.unit q.epoch q.page q.size q.n q.data ca cc q.p hN hT S' hq (fun k hk hl e => hS k hk hl (hU k hl (by omega))) q.kind (by omega)).mono ?_
        rintro e w' ⟨a, c, rfl, hl, hL, hM⟩
        have hz := hM.size
        have k1 := hN.lay.lt
        have k2 := hN.lay.map.lt
        have s1 : D lb = 17 := hN.lay.sb
        have s2 : D lm = 17 := hN.lay.sm
        have hM' : Mod U w w' := hM.mono (fun k _ e => by rcases e with rfl | rfl <;> exact hU _ (by assumption) (by omega))
        refine ⟨a, c, rfl, hl, ⟨⟨g, cap, ob, lb, lm, ub, pb, mb, _, hN.setLay hL (layDo_ok hN.lok _ _ _ _ _) hM, fun k hk hd => ?_⟩, fun k hk => hk.elim (fun h => Nat.lt_of_lt_of_le (hlt k h) hz) (·.2)⟩, hM'⟩
        by_cases e : k < w.heap.size
        · simp only [if_pos e] at hd
          exact Or.inl (hU k e hd)
        · exact Or.inr ⟨by omega, hk⟩
      · have hr : s.do q = (anE, s) := by unfold NdS.do; rw [if_neg hk, if_neg hk2, if_neg hk3]
        rw [hr]
        refine (rpcDo_no q.unit q.epoch q.page q.size q.n q.p.epoch q.data ca q.p.chains.length cc w nb q.kind (by omega)).mono ?_
        rintro e w' ⟨rfl, hB⟩
        exact ⟨none, 0, rfl, ListsAt.nil _ _ _, ((((Nd.mk ⟨g, cap, ob, lb, lm, ub, pb, mb, D, hN, hU⟩ hlt).below hB).mono (by omega)).grow), Mod.of_below hB⟩
/-- nodes that are new -/
theorem rpcNew_nd (S : Nat → Prop) (w : World) (q : Proj) (a : Option Addr) (c room : Nat) (hq : q.good) (hl : ListsAt S w a q.chains) (h1 : 1 ≤ room) (h2 : room ≤ 4096) :
    Calls Tryz.prog 56 #[.agg #[.int .i64 q.epoch, .slice a q.chains.length c], .int .i64 room] w fun e w' => ∃ nb, e = .returned (.tuple #[.pointer (some ⟨nb, 0, none⟩), .int .i64 0]) ∧ Nd w' nb (grow none' w w') 16 (nd0 q room) ∧ Below w.heap.size w w' := by
  refine (rpcNew_any S w q a c room hq hl h1 h2).mono ?_
  rintro e w' ⟨nb, g, cap, ob, lb, lm, ub, pb, mb, D, rfl, hN, hD, hB⟩
  have hz := hB.size
  refine ⟨nb, rfl, ⟨⟨g, cap, ob, lb, lm, ub, pb, mb, D, hN, fun k hk hd => ?_⟩, fun k hk => hk.elim (fun h => h.elim) (·.2)⟩, hB⟩
  by_cases e : k < w.heap.size
  · have := hD k e; omega
  · exact Or.inr ⟨by omega, hk⟩
end Go.Proofs.YtghdhhbpbmhooaaGreat
