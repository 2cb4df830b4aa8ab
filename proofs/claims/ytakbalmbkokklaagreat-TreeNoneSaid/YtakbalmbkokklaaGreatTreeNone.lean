/-
  The law TreeNone: a tree that nobody made has no paths.
  Conditions: none.
-/
import Derived.Test.YtakbalmbkokklaaGreatDoNil
import Derived.Test.YtakbalmbkokklaaGreatWakes22
import Derived.Test.YtakbalmbkokklaaGreatRow22
namespace Go.Proofs.YtakbalmbkokklaaGreat
open Go.RowKit Esch Go.ChangeShapes Go.WideShapes Go.ChangeAt

set_option maxRecDepth 100000 in
set_option maxHeartbeats 4000000 in
theorem treeNone_walk (w : World) (k z : Int) (p q : Nm) : Calls Tryz.prog 6 #[.agg #[.int .i64 k, .int .i64 z, .string (bs p), .string (bs q)]] w fun e w' => e = .returned (.bool true) ∧ Below w.heap.size w w' := by
  obtain ⟨W2, hW2⟩ : ∃ W2, W2 = (w.alloc (.cells #[.int .i64 k, .int .i64 z, .string (bs p), .string (bs q)] 48)).alloc (.cells #[.int .i64 k, .int .i64 z, .string (bs p), .string (bs q)] 48) := ⟨_, rfl⟩
  have hB2 : Below w.heap.size w W2 := by rw [hW2]; exact belC (Below.refl _ _)
  have hfa := fair1_any W2 (w.heap.size + 1) p q (by rw [hW2]; go_simp) (by rw [hW2]; go_simp)
  have c0 : W2.cell? ⟨w.heap.size, 0, none⟩ = some (.int .i64 k) := by rw [hW2]; go_simp
  have c1 : W2.cell? ⟨w.heap.size, 1, none⟩ = some (.int .i64 z) := by rw [hW2]; go_simp
  have c2 : W2.cell? ⟨w.heap.size, 2, none⟩ = some (.string (bs p)) := by rw [hW2]; go_simp
  have c3 : W2.cell? ⟨w.heap.size, 3, none⟩ = some (.string (bs q)) := by rw [hW2]; go_simp
  have f0 : W2.frozen? ⟨w.heap.size, 0, none⟩ = false := by rw [hW2]; go_simp
  have HW2 := Lib.hid hW2
  have HB2 := Lib.hid hB2
  clear hW2 hB2
  go_enter Tryz.func6, Tryz.ntmps6
  go_wp2_with fail
  rw [← HW2.out]
  refine hfa.mono ?_
  clear hfa
  rintro e w3 ⟨v, rfl, hB3⟩
  have HB3 := Lib.hid (below_chain HB2.out hB3)
  cases v
  · clear c0 c1 c2 c3 f0 hB3
    go_wp2_with fail
    refine (wakes22_any _).mono ?_
    rintro e wz ⟨rfl, hBz⟩
    go_wp2_with fail
    go_ret
    exact ⟨rfl, below_chain HB3.out hBz⟩
  · have d0 := below_at hB3 c0 (cell_lt c0)
    have d1 := below_at hB3 c1 (cell_lt c1)
    have d2 := below_at hB3 c2 (cell_lt c2)
    have d3 := below_at hB3 c3 (cell_lt c3)
    have g0 := (hB3.frozen (p := ⟨w.heap.size, 0, none⟩) (cell_lt c0)).trans f0
    clear c0 c1 c2 c3 f0 hB3
    go_wp2_with fail
    refine (find_nil _ _).mono ?_
    rintro e w4 ⟨rfl, hB4⟩
    replace g0 := (hB4.frozen (p := ⟨w.heap.size, 0, none⟩) (cell_lt d0)).trans g0
    replace d0 := below_at hB4 d0 (cell_lt d0)
    replace d1 := below_at hB4 d1 (cell_lt d1)
    replace d2 := below_at hB4 d2 (cell_lt d2)
    replace d3 := below_at hB4 d3 (cell_lt d3)
    have HB3 := Lib.hid (below_chain HB3.out hB4)
    have hl0 := cell_lt d0
    clear hB4
    go_wp2_with fail
    refine (stat_nil _ _).mono ?_
    rintro e w5 ⟨rfl, hB5⟩
    replace g0 := (hB5.frozen (p := ⟨w.heap.size, 0, none⟩) (cell_lt d0)).trans g0
    replace d0 := below_at hB5 d0 (cell_lt d0)
    replace d1 := below_at hB5 d1 (cell_lt d1)
    replace d2 := below_at hB5 d2 (cell_lt d2)
    replace d3 := below_at hB5 d3 (cell_lt d3)
    have HB3 := Lib.hid (below_chain HB3.out hB5)
    have hl0 := cell_lt d0
    clear hB5
    obtain ⟨W6, hW6⟩ : ∃ W6, W6 = w5.alloc (.cells #[.int .i64 0, .int .i64 0, .int .i64 0, .int .i64 0] 32) := ⟨_, rfl⟩
    have hB6 : Below w5.heap.size w5 W6 := by rw [hW6]; exact belC (Below.refl _ _)
    have HW6 := Lib.hid hW6
    clear hW6
    go_wp2_with fail
    rw [← HW6.out]
    replace g0 := (hB6.frozen (p := ⟨w.heap.size, 0, none⟩) (cell_lt d0)).trans g0
    replace d0 := below_at hB6 d0 (cell_lt d0)
    replace d1 := below_at hB6 d1 (cell_lt d1)
    replace d2 := below_at hB6 d2 (cell_lt d2)
    replace d3 := below_at hB6 d3 (cell_lt d3)
    have HB3 := Lib.hid (below_chain HB3.out hB6)
    have hl0 := cell_lt d0
    clear hB6
    refine (list_nil _ _).mono ?_
    rintro e w7 ⟨rfl, hB7⟩
    replace g0 := (hB7.frozen (p := ⟨w.heap.size, 0, none⟩) (cell_lt d0)).trans g0
    replace d0 := below_at hB7 d0 (cell_lt d0)
    replace d1 := below_at hB7 d1 (cell_lt d1)
    replace d2 := below_at hB7 d2 (cell_lt d2)
    replace d3 := below_at hB7 d3 (cell_lt d3)
    have HB3 := Lib.hid (below_chain HB3.out hB7)
    have hl0 := cell_lt d0
    clear hB7
    go_wp2_with fail
    refine (mod7_any _ _).mono ?_
    rintro e w8 ⟨⟨m, rfl, hm0, hm1⟩, rfl⟩
    have hwr : wrap64 (1 + m) = 1 + m := by unfold wrap64; omega
    go_wp2_with fail
    have hBs : Below w.heap.size w (w8.setCell ⟨w.heap.size, 0, none⟩ (.int .i64 (1 + m))) := by exact belC HB3.out
    have HB9 := Lib.hid hBs
    clear hBs hwr d0 d1 d2 d3 g0
    refine (do_nil _ _ _ _ _ ⟨by omega, by omega⟩).mono ?_
    rintro e w10 ⟨rfl, hB10⟩
    have HB10 := Lib.hid (below_chain HB9.out hB10)
    clear hB10
    go_wp2_with fail
    refine (inodes_nil _).mono ?_
    rintro e w11 ⟨rfl, hB11⟩
    have HB11 := Lib.hid (below_chain HB10.out hB11)
    clear hB11
    go_wp2_with fail
    refine (names_nil _).mono ?_
    rintro e w12 ⟨rfl, hB12⟩
    have HB12 := Lib.hid (below_chain HB11.out hB12)
    clear hB12
    go_wp2_with fail
    refine (check_nil _).mono ?_
    rintro e w13 ⟨rfl, hB13⟩
    have HB13 := Lib.hid (below_chain HB12.out hB13)
    clear hB13
    go_wp2_with fail
    refine (wakes22_any _).mono ?_
    rintro e wz ⟨rfl, hBz⟩
    have HB14 := Lib.hid (below_chain HB13.out hBz)
    clear hBz
    go_wp2_with fail
    go_ret
    exact ⟨rfl, HB14.out⟩
def tyStep : Ty := .struct [.int .i64, .int .i64, .str, .str]
theorem rd_step {w : World} {cs : List Value} {d : D} (h : Rd w tyStep cs d) : ∃ (k z : Int) (p q : ByteArray), cs = [.int .i64 k, .int .i64 z, .string p, .string q] := by
  simp only [tyStep, rd_struct, rds_cons, rds_nil, rd_int, rd_str] at h
  obtain ⟨ds, rfl, c0, r0, d0, s0, rfl, rfl, -, ⟨k, rfl, rfl, -⟩, c1, r1, d1, s1, rfl, rfl, -, ⟨u, rfl, rfl, -⟩, c2, r2, d2, s2, rfl, rfl, -, ⟨s, rfl, rfl, hs⟩, c3, r3, d3, s3, rfl, rfl, -, ⟨t, rfl, rfl, ht⟩, rfl, rfl⟩ := h
  exact ⟨k, u, s, t, rfl⟩
theorem bs_of (s : ByteArray) : bs s.data.toList = s := rfl

set_option maxRecDepth 100000 in
set_option maxHeartbeats 2000000 in
theorem treeNone_lifted (os : Os) (started : os.Started) (H : Type) (enc : TypeId × Value → H) :
    ReturnsInHanded {} Tryz.checked os 6 .any (Rows.treeNoneSpec.pre6 enc Tryz.prog Tryz.f6 Rows.treeNoneRow.domain false) (Rows.treeNoneSpec.post enc Tryz.prog Tryz.f6 false true false false) := by
  refine returnsInHanded_of_change (C := Tryz.checked) Tryz.ownP started (by kernel_rfl) Tryz.func6
    (ChangeSpec.witness6 (enc := enc) (C := Tryz.checked) false ⟨#[], #[.agg #[.int .i64 0, .int .i64 0, .string ⟨#[]⟩, .string ⟨#[]⟩]], []⟩ 8 (by kernel_rfl) (by kernel_rfl) (by kernel_rfl) (by kernel_rfl)) ?_
  intro W base args ds gs before hval0 hW hcnd _
  have hval : ∀ (j : Nat) t v, Tryz.f6.params[j]? = some t → args[j]? = some v → Value.okWide Tryz.prog W .any base t v := hval0
  have hW' := hW
  obtain ⟨p, q, hA0, hV, rfl, hfz, hnd⟩ := hW
  have hA : DataW.TrodAll enc Tryz.prog W 0 (fun _ => true) true Tryz.f6.params.toList args.toList ds p := hA0
  rw [Tryz.params6] at hA hval
  obtain ⟨v0, vs0, d0, ds0, p0, q0, hargs, rfl, rfl, h0, r0⟩ := trodAll_cons hA
  obtain ⟨rfl, rfl, rfl⟩ := trodAll_nil r0
  obtain rfl : args = #[v0] := by cases args; simp_all
  obtain ⟨rfl, rfl⟩ := trodVars_none hV
  obtain ⟨cs0, x0, hv0, hr0⟩ := open_arg (n := 9) (T := tyStep) (by kernel_rfl) (hval 0 48 v0 rfl rfl) h0
  simp only [tyStep, Ty.isStruct, if_true] at hv0
  obtain ⟨k, z, p, q, e0⟩ := rd_step hr0
  subst e0
  subst hv0
  clear hA0 hval0
  rw [← bs_of p, ← bs_of q] at *
  refine (treeNone_walk W k z p.data.toList q.data.toList).mono fun e W' ⟨he, hb⟩ => ?_
  subst he
  exact ⟨_, rfl, law_post Tryz.laidOutP (by kernel_rfl) rfl Tryz.underlying4 hW' rfl rfl rfl rfl hb⟩

theorem treeNone_holds : Rows.TreeNoneSaid :=
  OpenClaim.holds_of_wide 6 Tryz.f6 rfl rfl rfl rfl rfl rfl rfl ⟨rfl, rfl, rfl, rfl, rfl⟩ rfl rfl rfl rfl rfl (by kernel_rfl) Tryz.func6 (by kernel_rfl)
    (of_decide_eq_true (by kernel_rfl)) (by unfold Func.isWrapper; first | (rw [if_pos (by decide +kernel)]; kernel_rfl) | (rw [if_neg (by decide +kernel)]; exact ⟨rfl, rfl⟩))
    (fun os started H enc _ => treeNone_lifted os started H enc)
end Go.Proofs.YtakbalmbkokklaaGreat
