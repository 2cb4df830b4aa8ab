import Derived.Test.YtghdhhbpbmhooaaGreatPkApp
import Derived.Test.YtghdhhbpbmhooaaGreatTail2
import Derived.Test.YtghdhhbpbmhooaaGreatPkHand
/- a record that is appended: what it hears, and nothing more comes of it -/
namespace Go.Proofs.YtghdhhbpbmhooaaGreat
open Go.RowKit Esch

section
variable {w : World} {b : Nat} {S : Nat → Prop} {s : ApS} (x : AnS) (a : Option Addr) (c : Nat) (bb : Bool)
set_option maxRecDepth 100000 in
set_option maxHeartbeats 1000000 in
theorem apHear_end (h : ApAt w b S s) (h5 : s.at = 5) : Calls Tryz.prog 35 #[.pointer (some ⟨b, 0, none⟩), aV x a c, .bool bb] w (ApPost w b S s) := by
  have c0 := h.c0
  obtain ⟨ca, cc, c1, hcl⟩ := h.c1
  have c2 := h.c2
  have c3 := h.c3
  have c4 := h.c4
  have c5 := h.c5
  have c6 := h.c6
  have c7 := h.c7
  have c8 := h.c8
  have hl := h.lt
  have f3 := h.fr 3 (by omega)
  have f4 := h.fr 4 (by omega)
  have f5 := h.fr 5 (by omega)
  have f6 := h.fr 6 (by omega)
  have f7 := h.fr 7 (by omega)
  have f8 := h.fr 8 (by omega)
  have H := Lib.hid h
  rw [h5] at c3
  clear h hcl h5
  simp only [aV]
  go_enter Tryz.func35, Tryz.ntmps35
  go_wp2_with fail
  go_step3
  go_wp2_with fail
  rw [Exit.noGoto_ret]
  go_end0
  exact H.out.post0 (by exact belC (Below.refl _ _)) rfl
set_option maxRecDepth 100000 in
set_option maxHeartbeats 1000000 in
theorem apHear_early (h : ApAt w b S s) (h5 : s.at ≠ 5) (hy : (s.early x.code bb).2 = true) : Calls Tryz.prog 35 #[.pointer (some ⟨b, 0, none⟩), aV x a c, .bool bb] w (ApPost w b S (s.early x.code bb).1) := by
  have c0 := h.c0
  obtain ⟨ca, cc, c1, hcl⟩ := h.c1
  have c2 := h.c2
  have c3 := h.c3
  have c4 := h.c4
  have c5 := h.c5
  have c6 := h.c6
  have c7 := h.c7
  have c8 := h.c8
  have hl := h.lt
  have f3 := h.fr 3 (by omega)
  have f4 := h.fr 4 (by omega)
  have f5 := h.fr 5 (by omega)
  have f6 := h.fr 6 (by omega)
  have f7 := h.fr 7 (by omega)
  have f8 := h.fr 8 (by omega)
  have H := Lib.hid h
  obtain ⟨xc, xn, xd, ⟨xpe, xls⟩, xm, xs, xe⟩ := x
  obtain ⟨W0, hW0, hB0, hz0, b0, b1, b2, b3, b4, b5, b6, b7⟩ := an_boxA w (.int .i64 xc) (.int .i64 xn) (.string xd) (.int .i64 xpe) (.slice a xls.length c) (.int .i64 xm) (.int .i64 xs) (.int .i64 xe)
  have he := apEarly_any (h.below hB0) xc bb
  have HW0 := Lib.hid hW0
  have e5 : (s.at == 5) = false := by simpa using h5
  simp only at hy
  clear hW0 h hcl h5
  simp only [aV]
  go_enter Tryz.func35, Tryz.ntmps35
  go_wp2_with fail
  go_step3
  go_wp2_with fail
  rw [← HW0.out]
  refine he.mono ?_
  clear he
  rintro e w1 ⟨rfl, hA1, hM1⟩
  rw [hy]
  have HA1 := Lib.hid hA1
  have HM1 := Lib.hid hM1
  clear hA1 hM1
  go_wp2_with fail
  rw [Exit.noGoto_ret]
  go_end0
  exact ⟨rfl, HA1.out.sub (fun _ _ hk => Or.inl hk), (Mod.of_below hB0).trans HM1.out⟩
theorem bytes_ne {x y : ByteArray} (h : x ≠ y) : (x.toList == y.toList) = false := by
  rw [beq_eq_false_iff_ne]
  intro e
  rw [ByteArray.toList_eq, ByteArray.toList_eq] at e
  exact h (ByteArray.ext (Array.ext' e))
theorem ApS.early_no {s : ApS} {c : Int} (hc : c ≠ 47 ∧ c ≠ 45 ∧ c ≠ 40) : s.early c true = (s, false) := by
  unfold ApS.early
  rw [if_neg (by simp), if_neg hc.1, if_neg hc.2.1, if_neg hc.2.2]
set_option maxRecDepth 100000 in
set_option maxHeartbeats 1000000 in
theorem apHear_layE (h : ApAt w b S s) (h5 : s.at = 0) (hc : x.code ≠ 47 ∧ x.code ≠ 45 ∧ x.code ≠ 40) (h0 : x.code ≠ 0) : Calls Tryz.prog 35 #[.pointer (some ⟨b, 0, none⟩), aV x a c, .bool true] w (ApPost w b S s) := by
  obtain ⟨xc, xn, xd, ⟨xpe, xls⟩, xm, xs, xe⟩ := x
  obtain ⟨W0, hW0, hB0, hz0, b0, b1, b2, b3, b4, b5, b6, b7⟩ := an_boxA w (.int .i64 xc) (.int .i64 xn) (.string xd) (.int .i64 xpe) (.slice a xls.length c) (.int .i64 xm) (.int .i64 xs) (.int .i64 xe)
  simp only at *
  have he := apEarly_any (h.below hB0) xc true
  rw [ApS.early_no hc] at he
  have HW0 := Lib.hid hW0
  have hlt := h.lt
  have c3 := h.c3
  rw [h5] at c3
  clear hW0 h
  simp only [aV]
  go_enter Tryz.func35, Tryz.ntmps35
  go_wp2_with fail
  go_step3
  go_wp2_with fail
  rw [← HW0.out]
  refine he.mono ?_
  clear he
  rintro e w1 ⟨rfl, h, hM1⟩
  clear c3
  have c0 := h.c0
  obtain ⟨ca, cc, c1, hcl⟩ := h.c1
  have c2 := h.c2
  have c3 := h.c3
  have c4 := h.c4
  have c5 := h.c5
  have c6 := h.c6
  have c7 := h.c7
  have c8 := h.c8
  have hl := h.lt
  have f3 := h.fr 3 (by omega)
  have f4 := h.fr 4 (by omega)
  have f5 := h.fr 5 (by omega)
  have f6 := h.fr 6 (by omega)
  have f7 := h.fr 7 (by omega)
  have f8 := h.fr 8 (by omega)
  have H := Lib.hid h
  rw [h5] at c3
  have hbn : w.heap.size ≠ b := by omega
  replace b0 := hM1.at b0 hbn
  replace b1 := hM1.at b1 hbn
  replace b2 := hM1.at b2 hbn
  replace b3 := hM1.at b3 hbn
  replace b4 := hM1.at b4 hbn
  have HMW := Lib.hid ((Mod.of_below hB0 : Mod (· = b) w W0).trans hM1)
  clear h hM1 hcl b5 b6 b7 hz0 hB0
  have e0 : (xc != 0) = true := by simpa using h0
  clear h0 hc
  go_wp2_with fail
  rw [Exit.noGoto_ret]
  go_end0
  exact ⟨rfl, H.out.sub (fun _ _ hk => Or.inl hk), HMW.out⟩
set_option maxRecDepth 100000 in
set_option maxHeartbeats 1000000 in
theorem apHear_chkE (h : ApAt w b S s) (h5 : s.at = 1) (hc : x.code ≠ 47 ∧ x.code ≠ 45 ∧ x.code ≠ 40) (h0 : x.code ≠ 0) : Calls Tryz.prog 35 #[.pointer (some ⟨b, 0, none⟩), aV x a c, .bool true] w (ApPost w b S { s with «at» := s.was }) := by
  obtain ⟨xc, xn, xd, ⟨xpe, xls⟩, xm, xs, xe⟩ := x
  obtain ⟨W0, hW0, hB0, hz0, b0, b1, b2, b3, b4, b5, b6, b7⟩ := an_boxA w (.int .i64 xc) (.int .i64 xn) (.string xd) (.int .i64 xpe) (.slice a xls.length c) (.int .i64 xm) (.int .i64 xs) (.int .i64 xe)
  simp only at *
  have he := apEarly_any (h.below hB0) xc true
  rw [ApS.early_no hc] at he
  have HW0 := Lib.hid hW0
  have hlt := h.lt
  have c3 := h.c3
  rw [h5] at c3
  clear hW0 h
  simp only [aV]
  go_enter Tryz.func35, Tryz.ntmps35
  go_wp2_with fail
  go_step3
  go_wp2_with fail
  rw [← HW0.out]
  refine he.mono ?_
  clear he
  rintro e w1 ⟨rfl, h, hM1⟩
  clear c3
  have c0 := h.c0
  obtain ⟨ca, cc, c1, hcl⟩ := h.c1
  have c2 := h.c2
  have c3 := h.c3
  have c4 := h.c4
  have c5 := h.c5
  have c6 := h.c6
  have c7 := h.c7
  have c8 := h.c8
  have hl := h.lt
  have f3 := h.fr 3 (by omega)
  have f4 := h.fr 4 (by omega)
  have f5 := h.fr 5 (by omega)
  have f6 := h.fr 6 (by omega)
  have f7 := h.fr 7 (by omega)
  have f8 := h.fr 8 (by omega)
  have H := Lib.hid h
  rw [h5] at c3
  have hbn : w.heap.size ≠ b := by omega
  replace b0 := hM1.at b0 hbn
  replace b1 := hM1.at b1 hbn
  replace b2 := hM1.at b2 hbn
  replace b3 := hM1.at b3 hbn
  replace b4 := hM1.at b4 hbn
  have HMW := Lib.hid ((Mod.of_below hB0 : Mod (· = b) w W0).trans hM1)
  clear h hM1 hcl b5 b6 b7 hz0 hB0
  have e0 : (xc != 0) = true := by simpa using h0
  clear h0 hc
  go_wp2_with fail
  go_quiet (fail)
  go_wp2_with fail
  rw [Exit.noGoto_ret]
  go_end0
  refine ⟨rfl, (H.out.wrote (by exact modC (Mod.refl _ _)) (by go_simp) (by go_simp) (by go_simp) (by go_simp) (by go_simp) (by go_simp) (by go_simp) (by go_simp) (by go_simp) (fun o => by go_simp)).sub (fun _ _ hk => Or.inl hk), HMW.out.trans (by exact modC (Mod.refl _ _))⟩
set_option maxRecDepth 100000 in
set_option maxHeartbeats 1000000 in
theorem apHear_written (h : ApAt w b S s) (h5 : s.at = 3) (hx : x.code = 41) : Calls Tryz.prog 35 #[.pointer (some ⟨b, 0, none⟩), aV x a c, .bool true] w (ApPost w b S { s with «at» := 4 }) := by
  have hc : x.code ≠ 47 ∧ x.code ≠ 45 ∧ x.code ≠ 40 := by omega
  obtain ⟨xc, xn, xd, ⟨xpe, xls⟩, xm, xs, xe⟩ := x
  obtain ⟨W0, hW0, hB0, hz0, b0, b1, b2, b3, b4, b5, b6, b7⟩ := an_boxA w (.int .i64 xc) (.int .i64 xn) (.string xd) (.int .i64 xpe) (.slice a xls.length c) (.int .i64 xm) (.int .i64 xs) (.int .i64 xe)
  simp only at *
  have he := apEarly_any (h.below hB0) xc true
  rw [ApS.early_no hc] at he
  have HW0 := Lib.hid hW0
  have hlt := h.lt
  have c3 := h.c3
  rw [h5] at c3
  clear hW0 h
  simp only [aV]
  go_enter Tryz.func35, Tryz.ntmps35
  go_wp2_with fail
  subst hx
  go_step3
  go_wp2_with fail
  rw [← HW0.out]
  refine he.mono ?_
  clear he
  rintro e w1 ⟨rfl, h, hM1⟩
  clear c3
  have c0 := h.c0
  obtain ⟨ca, cc, c1, hcl⟩ := h.c1
  have c2 := h.c2
  have c3 := h.c3
  have c4 := h.c4
  have c5 := h.c5
  have c6 := h.c6
  have c7 := h.c7
  have c8 := h.c8
  have hl := h.lt
  have f3 := h.fr 3 (by omega)
  have f4 := h.fr 4 (by omega)
  have f5 := h.fr 5 (by omega)
  have f6 := h.fr 6 (by omega)
  have f7 := h.fr 7 (by omega)
  have f8 := h.fr 8 (by omega)
  have H := Lib.hid h
  rw [h5] at c3
  have hbn : w.heap.size ≠ b := by omega
  replace b0 := hM1.at b0 hbn
  replace b1 := hM1.at b1 hbn
  replace b2 := hM1.at b2 hbn
  replace b3 := hM1.at b3 hbn
  replace b4 := hM1.at b4 hbn
  have HMW := Lib.hid ((Mod.of_below hB0 : Mod (· = b) w W0).trans hM1)
  clear h hM1 hcl b5 b6 b7 hz0 hB0
  clear hc
  go_wp2_with fail
  rw [Exit.noGoto_ret]
  go_end0
  refine ⟨rfl, (H.out.wrote (by exact modC (Mod.refl _ _)) (by go_simp) (by go_simp) (by go_simp) (by go_simp) (by go_simp) (by go_simp) (by go_simp) (by go_simp) (by go_simp) (fun o => by go_simp)).sub (fun _ _ hk => Or.inl hk), HMW.out.trans (by exact modC (Mod.refl _ _))⟩
set_option maxRecDepth 100000 in
set_option maxHeartbeats 1000000 in
theorem apHear_unwrit (h : ApAt w b S s) (h5 : s.at = 4) (hx : x.code = 42) : Calls Tryz.prog 35 #[.pointer (some ⟨b, 0, none⟩), aV x a c, .bool true] w (ApPost w b S { s with «at» := 3 }) := by
  have hc : x.code ≠ 47 ∧ x.code ≠ 45 ∧ x.code ≠ 40 := by omega
  obtain ⟨xc, xn, xd, ⟨xpe, xls⟩, xm, xs, xe⟩ := x
  obtain ⟨W0, hW0, hB0, hz0, b0, b1, b2, b3, b4, b5, b6, b7⟩ := an_boxA w (.int .i64 xc) (.int .i64 xn) (.string xd) (.int .i64 xpe) (.slice a xls.length c) (.int .i64 xm) (.int .i64 xs) (.int .i64 xe)
  simp only at *
  have he := apEarly_any (h.below hB0) xc true
  rw [ApS.early_no hc] at he
  have HW0 := Lib.hid hW0
  have hlt := h.lt
  have c3 := h.c3
  rw [h5] at c3
  clear hW0 h
  simp only [aV]
  go_enter Tryz.func35, Tryz.ntmps35
  go_wp2_with fail
  subst hx
  go_step3
  go_wp2_with fail
  rw [← HW0.out]
  refine he.mono ?_
  clear he
  rintro e w1 ⟨rfl, h, hM1⟩
  clear c3
  have c0 := h.c0
  obtain ⟨ca, cc, c1, hcl⟩ := h.c1
  have c2 := h.c2
  have c3 := h.c3
  have c4 := h.c4
  have c5 := h.c5
  have c6 := h.c6
  have c7 := h.c7
  have c8 := h.c8
  have hl := h.lt
  have f3 := h.fr 3 (by omega)
  have f4 := h.fr 4 (by omega)
  have f5 := h.fr 5 (by omega)
  have f6 := h.fr 6 (by omega)
  have f7 := h.fr 7 (by omega)
  have f8 := h.fr 8 (by omega)
  have H := Lib.hid h
  rw [h5] at c3
  have hbn : w.heap.size ≠ b := by omega
  replace b0 := hM1.at b0 hbn
  replace b1 := hM1.at b1 hbn
  replace b2 := hM1.at b2 hbn
  replace b3 := hM1.at b3 hbn
  replace b4 := hM1.at b4 hbn
  have HMW := Lib.hid ((Mod.of_below hB0 : Mod (· = b) w W0).trans hM1)
  clear h hM1 hcl b5 b6 b7 hz0 hB0
  clear hc
  go_wp2_with fail
  go_region
  go_wp2_with fail
  rw [Exit.noGoto_ret]
  go_end0
  refine ⟨rfl, (H.out.wrote (by exact modC (Mod.refl _ _)) (by go_simp) (by go_simp) (by go_simp) (by go_simp) (by go_simp) (by go_simp) (by go_simp) (by go_simp) (by go_simp) (fun o => by go_simp)).sub (fun _ _ hk => Or.inl hk), HMW.out.trans (by exact modC (Mod.refl _ _))⟩
set_option maxRecDepth 100000 in
set_option maxHeartbeats 1000000 in
theorem apHear_trimmed3 (h : ApAt w b S s) (h5 : s.at = 3) (hx : x.code = 43) : Calls Tryz.prog 35 #[.pointer (some ⟨b, 0, none⟩), aV x a c, .bool true] w (ApPost w b S s.token) := by
  have hc : x.code ≠ 47 ∧ x.code ≠ 45 ∧ x.code ≠ 40 := by omega
  obtain ⟨xc, xn, xd, ⟨xpe, xls⟩, xm, xs, xe⟩ := x
  obtain ⟨W0, hW0, hB0, hz0, b0, b1, b2, b3, b4, b5, b6, b7⟩ := an_boxA w (.int .i64 xc) (.int .i64 xn) (.string xd) (.int .i64 xpe) (.slice a xls.length c) (.int .i64 xm) (.int .i64 xs) (.int .i64 xe)
  simp only at *
  have he := apEarly_any (h.below hB0) xc true
  rw [ApS.early_no hc] at he
  have HW0 := Lib.hid hW0
  have hlt := h.lt
  have c3 := h.c3
  rw [h5] at c3
  clear hW0 h
  simp only [aV]
  go_enter Tryz.func35, Tryz.ntmps35
  go_wp2_with fail
  subst hx
  refine wp_scope_fwd ?_
  intro code hcode
  have Hcode := Lib.hid hcode
  clear hcode
  go_wp2_with fail
  go_wp2_with fail
  rw [← HW0.out]
  refine he.mono ?_
  clear he
  rintro e w1 ⟨rfl, h, hM1⟩
  clear c3
  have c0 := h.c0
  obtain ⟨ca, cc, c1, hcl⟩ := h.c1
  have c2 := h.c2
  have c3 := h.c3
  have c4 := h.c4
  have c5 := h.c5
  have c6 := h.c6
  have c7 := h.c7
  have c8 := h.c8
  have hl := h.lt
  have f3 := h.fr 3 (by omega)
  have f4 := h.fr 4 (by omega)
  have f5 := h.fr 5 (by omega)
  have f6 := h.fr 6 (by omega)
  have f7 := h.fr 7 (by omega)
  have f8 := h.fr 8 (by omega)
  have H := Lib.hid h
  rw [h5] at c3
  have hbn : w.heap.size ≠ b := by omega
  replace b0 := hM1.at b0 hbn
  replace b1 := hM1.at b1 hbn
  replace b2 := hM1.at b2 hbn
  replace b3 := hM1.at b3 hbn
  replace b4 := hM1.at b4 hbn
  have HMW := Lib.hid ((Mod.of_below hB0 : Mod (· = b) w W0).trans hM1)
  clear h hM1 hcl b5 b6 b7 hz0 hB0
  clear hc
  go_wp2_with fail
  go_step3
  go_wp2_with fail
  refine ⟨_, by rw [Hcode.out]; rfl, ?_⟩
  clear Hcode
  go_wp2_with fail
  rw [Exit.noGoto_ret]
  go_end0
  refine ⟨rfl, (H.out.wrote (by exact modC (Mod.refl _ _)) (by go_simp) (by go_simp) (by go_simp) (by go_simp) (by go_simp) (by go_simp) (by go_simp) (by go_simp) (by go_simp) (fun o => by go_simp)).sub (fun _ _ hk => Or.inl hk), HMW.out.trans (by exact modC (Mod.refl _ _))⟩
set_option maxRecDepth 100000 in
set_option maxHeartbeats 1000000 in
theorem apHear_token4 (h : ApAt w b S s) (h5 : s.at = 4) (hx : x.code = 46 ∨ x.code = 43) : Calls Tryz.prog 35 #[.pointer (some ⟨b, 0, none⟩), aV x a c, .bool true] w (ApPost w b S s.token) := by
  have hc : x.code ≠ 47 ∧ x.code ≠ 45 ∧ x.code ≠ 40 := by omega
  obtain ⟨xc, xn, xd, ⟨xpe, xls⟩, xm, xs, xe⟩ := x
  obtain ⟨W0, hW0, hB0, hz0, b0, b1, b2, b3, b4, b5, b6, b7⟩ := an_boxA w (.int .i64 xc) (.int .i64 xn) (.string xd) (.int .i64 xpe) (.slice a xls.length c) (.int .i64 xm) (.int .i64 xs) (.int .i64 xe)
  simp only at *
  have he := apEarly_any (h.below hB0) xc true
  rw [ApS.early_no hc] at he
  have HW0 := Lib.hid hW0
  have hlt := h.lt
  have c3 := h.c3
  rw [h5] at c3
  clear hW0 h
  simp only [aV]
  go_enter Tryz.func35, Tryz.ntmps35
  go_wp2_with fail
  clear hc
  rcases hx with hx | hx
  all_goals
    subst hx
    refine wp_scope_fwd ?_
    intro code hcode
    have Hcode := Lib.hid hcode
    clear hcode
    go_wp2_with fail
    go_wp2_with fail
    rw [← HW0.out]
    refine he.mono ?_
    clear he
    rintro e w1 ⟨rfl, h, hM1⟩
    clear c3
    have c0 := h.c0
    obtain ⟨ca, cc, c1, hcl⟩ := h.c1
    have c2 := h.c2
    have c3 := h.c3
    have c4 := h.c4
    have c5 := h.c5
    have c6 := h.c6
    have c7 := h.c7
    have c8 := h.c8
    have hl := h.lt
    have f3 := h.fr 3 (by omega)
    have f4 := h.fr 4 (by omega)
    have f5 := h.fr 5 (by omega)
    have f6 := h.fr 6 (by omega)
    have f7 := h.fr 7 (by omega)
    have f8 := h.fr 8 (by omega)
    have H := Lib.hid h
    rw [h5] at c3
    have hbn : w.heap.size ≠ b := by omega
    replace b0 := hM1.at b0 hbn
    replace b1 := hM1.at b1 hbn
    replace b2 := hM1.at b2 hbn
    replace b3 := hM1.at b3 hbn
    replace b4 := hM1.at b4 hbn
    have HMW := Lib.hid ((Mod.of_below hB0 : Mod (· = b) w W0).trans hM1)
    clear h hM1 hcl b5 b6 b7 hz0 hB0
    go_wp2_with fail
    go_region
    go_wp2_with fail
    go_step3
    go_wp2_with fail
    refine ⟨_, by rw [Hcode.out]; rfl, ?_⟩
    clear Hcode
    go_wp2_with fail
    rw [Exit.noGoto_ret]
    go_end0
    refine ⟨rfl, (H.out.wrote (by exact modC (Mod.refl _ _)) (by go_simp) (by go_simp) (by go_simp) (by go_simp) (by go_simp) (by go_simp) (by go_simp) (by go_simp) (by go_simp) (fun o => by go_simp)).sub (fun _ _ hk => Or.inl hk), HMW.out.trans (by exact modC (Mod.refl _ _))⟩
set_option maxRecDepth 100000 in
set_option maxHeartbeats 1000000 in
theorem apHear_tokenD (h : ApAt w b S s) (h5 : s.at = 4) (hx : x.code = 0) (hd : x.data ≠ s.txt) : Calls Tryz.prog 35 #[.pointer (some ⟨b, 0, none⟩), aV x a c, .bool true] w (ApPost w b S s.token) := by
  have hc : x.code ≠ 47 ∧ x.code ≠ 45 ∧ x.code ≠ 40 := by omega
  obtain ⟨xc, xn, xd, ⟨xpe, xls⟩, xm, xs, xe⟩ := x
  obtain ⟨W0, hW0, hB0, hz0, b0, b1, b2, b3, b4, b5, b6, b7⟩ := an_boxA w (.int .i64 xc) (.int .i64 xn) (.string xd) (.int .i64 xpe) (.slice a xls.length c) (.int .i64 xm) (.int .i64 xs) (.int .i64 xe)
  simp only at *
  have he := apEarly_any (h.below hB0) xc true
  rw [ApS.early_no hc] at he
  have HW0 := Lib.hid hW0
  have hlt := h.lt
  have c3 := h.c3
  rw [h5] at c3
  clear hW0 h
  simp only [aV]
  go_enter Tryz.func35, Tryz.ntmps35
  go_wp2_with fail
  clear hc
  subst hx
  have ed := bytes_ne hd
  clear hd
  refine wp_scope_fwd ?_
  intro code hcode
  have Hcode := Lib.hid hcode
  clear hcode
  go_wp2_with fail
  go_wp2_with fail
  rw [← HW0.out]
  refine he.mono ?_
  clear he
  rintro e w1 ⟨rfl, h, hM1⟩
  clear c3
  have c0 := h.c0
  obtain ⟨ca, cc, c1, hcl⟩ := h.c1
  have c2 := h.c2
  have c3 := h.c3
  have c4 := h.c4
  have c5 := h.c5
  have c6 := h.c6
  have c7 := h.c7
  have c8 := h.c8
  have hl := h.lt
  have f3 := h.fr 3 (by omega)
  have f4 := h.fr 4 (by omega)
  have f5 := h.fr 5 (by omega)
  have f6 := h.fr 6 (by omega)
  have f7 := h.fr 7 (by omega)
  have f8 := h.fr 8 (by omega)
  have H := Lib.hid h
  rw [h5] at c3
  have hbn : w.heap.size ≠ b := by omega
  replace b0 := hM1.at b0 hbn
  replace b1 := hM1.at b1 hbn
  replace b2 := hM1.at b2 hbn
  replace b3 := hM1.at b3 hbn
  replace b4 := hM1.at b4 hbn
  have HMW := Lib.hid ((Mod.of_below hB0 : Mod (· = b) w W0).trans hM1)
  clear h hM1 hcl b5 b6 b7 hz0 hB0
  go_wp2_with fail
  go_region
  go_wp2_with fail
  go_step3
  go_wp2_with fail
  refine ⟨_, by rw [Hcode.out]; rfl, ?_⟩
  clear Hcode
  go_wp2_with fail
  rw [Exit.noGoto_ret]
  go_end0
  refine ⟨rfl, (H.out.wrote (by exact modC (Mod.refl _ _)) (by go_simp) (by go_simp) (by go_simp) (by go_simp) (by go_simp) (by go_simp) (by go_simp) (by go_simp) (by go_simp) (fun o => by go_simp)).sub (fun _ _ hk => Or.inl hk), HMW.out.trans (by exact modC (Mod.refl _ _))⟩
set_option maxRecDepth 100000 in
set_option maxHeartbeats 1000000 in
theorem apHear_end4 (h : ApAt w b S s) (h5 : s.at = 4) (hc : x.code ≠ 47 ∧ x.code ≠ 45 ∧ x.code ≠ 40) (hx : x.code ≠ 0 ∧ x.code ≠ 46 ∧ x.code ≠ 43 ∧ x.code ≠ 42) : Calls Tryz.prog 35 #[.pointer (some ⟨b, 0, none⟩), aV x a c, .bool true] w (ApPost w b S (s.over x.code)) := by
  obtain ⟨xc, xn, xd, ⟨xpe, xls⟩, xm, xs, xe⟩ := x
  obtain ⟨W0, hW0, hB0, hz0, b0, b1, b2, b3, b4, b5, b6, b7⟩ := an_boxA w (.int .i64 xc) (.int .i64 xn) (.string xd) (.int .i64 xpe) (.slice a xls.length c) (.int .i64 xm) (.int .i64 xs) (.int .i64 xe)
  simp only at *
  have he := apEarly_any (h.below hB0) xc true
  rw [ApS.early_no hc] at he
  have HW0 := Lib.hid hW0
  have hlt := h.lt
  have c3 := h.c3
  rw [h5] at c3
  clear hW0 h
  simp only [aV]
  go_enter Tryz.func35, Tryz.ntmps35
  go_wp2_with fail
  obtain ⟨x0, x1, x3, x4⟩ := hx
  have e0 : (xc == 0) = false := by simpa using x0
  have e1 : (xc == 46) = false := by simpa using x1
  have e3 : (xc == 43) = false := by simpa using x3
  have e4 : (xc == 42) = false := by simpa using x4
  clear x0 x1 x3 x4 hc
  go_step3
  go_wp2_with fail
  rw [← HW0.out]
  refine he.mono ?_
  clear he
  rintro e w1 ⟨rfl, h, hM1⟩
  clear c3
  have c0 := h.c0
  obtain ⟨ca, cc, c1, hcl⟩ := h.c1
  have c2 := h.c2
  have c3 := h.c3
  have c4 := h.c4
  have c5 := h.c5
  have c6 := h.c6
  have c7 := h.c7
  have c8 := h.c8
  have hl := h.lt
  have f3 := h.fr 3 (by omega)
  have f4 := h.fr 4 (by omega)
  have f5 := h.fr 5 (by omega)
  have f6 := h.fr 6 (by omega)
  have f7 := h.fr 7 (by omega)
  have f8 := h.fr 8 (by omega)
  have H := Lib.hid h
  rw [h5] at c3
  have hbn : w.heap.size ≠ b := by omega
  replace b0 := hM1.at b0 hbn
  replace b1 := hM1.at b1 hbn
  replace b2 := hM1.at b2 hbn
  replace b3 := hM1.at b3 hbn
  replace b4 := hM1.at b4 hbn
  have HMW := Lib.hid ((Mod.of_below hB0 : Mod (· = b) w W0).trans hM1)
  clear h hM1 hcl b5 b6 b7 hz0 hB0
  have HS2 := Lib.hid HMW.out
  go_wp2_with fail
  go_region
  have he2 := apEnd_any (H.out.mod (F := none') ((Mod.refl none' w1).drew) (fun _ _ _ => id)) xc
  go_wp2_with fail
  refine he2.mono ?_
  clear he2
  rintro e w3 ⟨rfl, hA3, hM3⟩
  have HA3 := Lib.hid hA3
  have HM3 := Lib.hid hM3
  clear hA3 hM3 c0 c1 c2 c3 c4 c5 c6 c7 c8 f3 f4 f5 f6 f7 f8
  go_wp2_with fail
  rw [Exit.noGoto_ret]
  go_end0
  exact ⟨rfl, HA3.out.sub (fun _ _ hk => Or.inl hk), HMW.out.drew.trans HM3.out⟩
set_option maxRecDepth 100000 in
set_option maxHeartbeats 1000000 in
theorem apHear_end3 (h : ApAt w b S s) (h5 : s.at = 3) (hc : x.code ≠ 47 ∧ x.code ≠ 45 ∧ x.code ≠ 40) (hx : x.code ≠ 0 ∧ x.code ≠ 41 ∧ x.code ≠ 43 ∧ x.code ≠ 44) : Calls Tryz.prog 35 #[.pointer (some ⟨b, 0, none⟩), aV x a c, .bool true] w (ApPost w b S (s.over x.code)) := by
  obtain ⟨xc, xn, xd, ⟨xpe, xls⟩, xm, xs, xe⟩ := x
  obtain ⟨W0, hW0, hB0, hz0, b0, b1, b2, b3, b4, b5, b6, b7⟩ := an_boxA w (.int .i64 xc) (.int .i64 xn) (.string xd) (.int .i64 xpe) (.slice a xls.length c) (.int .i64 xm) (.int .i64 xs) (.int .i64 xe)
  simp only at *
  have he := apEarly_any (h.below hB0) xc true
  rw [ApS.early_no hc] at he
  have HW0 := Lib.hid hW0
  have hlt := h.lt
  have c3 := h.c3
  rw [h5] at c3
  clear hW0 h
  simp only [aV]
  go_enter Tryz.func35, Tryz.ntmps35
  go_wp2_with fail
  obtain ⟨x0, x1, x3, x4⟩ := hx
  have e0 : (xc == 0) = false := by simpa using x0
  have e1 : (xc == 41) = false := by simpa using x1
  have e3 : (xc == 43) = false := by simpa using x3
  have e4 : (xc == 44) = false := by simpa using x4
  clear x0 x1 x3 x4 hc
  go_step3
  go_wp2_with fail
  rw [← HW0.out]
  refine he.mono ?_
  clear he
  rintro e w1 ⟨rfl, h, hM1⟩
  clear c3
  have c0 := h.c0
  obtain ⟨ca, cc, c1, hcl⟩ := h.c1
  have c2 := h.c2
  have c3 := h.c3
  have c4 := h.c4
  have c5 := h.c5
  have c6 := h.c6
  have c7 := h.c7
  have c8 := h.c8
  have hl := h.lt
  have f3 := h.fr 3 (by omega)
  have f4 := h.fr 4 (by omega)
  have f5 := h.fr 5 (by omega)
  have f6 := h.fr 6 (by omega)
  have f7 := h.fr 7 (by omega)
  have f8 := h.fr 8 (by omega)
  have H := Lib.hid h
  rw [h5] at c3
  have hbn : w.heap.size ≠ b := by omega
  replace b0 := hM1.at b0 hbn
  replace b1 := hM1.at b1 hbn
  replace b2 := hM1.at b2 hbn
  replace b3 := hM1.at b3 hbn
  replace b4 := hM1.at b4 hbn
  have HMW := Lib.hid ((Mod.of_below hB0 : Mod (· = b) w W0).trans hM1)
  clear h hM1 hcl b5 b6 b7 hz0 hB0
  have he2 := apEnd_any H.out xc
  go_wp2_with fail
  refine he2.mono ?_
  clear he2
  rintro e w3 ⟨rfl, hA3, hM3⟩
  have HA3 := Lib.hid hA3
  have HM3 := Lib.hid hM3
  clear hA3 hM3 c0 c1 c2 c3 c4 c5 c6 c7 c8 f3 f4 f5 f6 f7 f8
  go_wp2_with fail
  rw [Exit.noGoto_ret]
  go_end0
  exact ⟨rfl, HA3.out.sub (fun _ _ hk => Or.inl hk), HMW.out.trans HM3.out⟩
set_option maxRecDepth 100000 in
set_option maxHeartbeats 1000000 in
theorem apHear_full3 (h : ApAt w b S s) (h5 : s.at = 3) (hx : x.code = 44) : Calls Tryz.prog 35 #[.pointer (some ⟨b, 0, none⟩), aV x a c, .bool true] w (ApPost w b S s.full) := by
  have hc : x.code ≠ 47 ∧ x.code ≠ 45 ∧ x.code ≠ 40 := by omega
  obtain ⟨xc, xn, xd, ⟨xpe, xls⟩, xm, xs, xe⟩ := x
  obtain ⟨W0, hW0, hB0, hz0, b0, b1, b2, b3, b4, b5, b6, b7⟩ := an_boxA w (.int .i64 xc) (.int .i64 xn) (.string xd) (.int .i64 xpe) (.slice a xls.length c) (.int .i64 xm) (.int .i64 xs) (.int .i64 xe)
  simp only at *
  have he := apEarly_any (h.below hB0) xc true
  rw [ApS.early_no hc] at he
  have HW0 := Lib.hid hW0
  have hlt := h.lt
  have c3 := h.c3
  rw [h5] at c3
  clear hW0 h
  simp only [aV]
  go_enter Tryz.func35, Tryz.ntmps35
  go_wp2_with fail
  clear hc
  subst hx
  refine wp_scope_fwd ?_
  intro code hcode
  have Hcode := Lib.hid hcode
  clear hcode
  go_wp2_with fail
  go_wp2_with fail
  rw [← HW0.out]
  refine he.mono ?_
  clear he
  rintro e w1 ⟨rfl, h, hM1⟩
  clear c3
  have c0 := h.c0
  obtain ⟨ca, cc, c1, hcl⟩ := h.c1
  have c2 := h.c2
  have c3 := h.c3
  have c4 := h.c4
  have c5 := h.c5
  have c6 := h.c6
  have c7 := h.c7
  have c8 := h.c8
  have hl := h.lt
  have f3 := h.fr 3 (by omega)
  have f4 := h.fr 4 (by omega)
  have f5 := h.fr 5 (by omega)
  have f6 := h.fr 6 (by omega)
  have f7 := h.fr 7 (by omega)
  have f8 := h.fr 8 (by omega)
  have H := Lib.hid h
  rw [h5] at c3
  have hbn : w.heap.size ≠ b := by omega
  replace b0 := hM1.at b0 hbn
  replace b1 := hM1.at b1 hbn
  replace b2 := hM1.at b2 hbn
  replace b3 := hM1.at b3 hbn
  replace b4 := hM1.at b4 hbn
  have HMW := Lib.hid ((Mod.of_below hB0 : Mod (· = b) w W0).trans hM1)
  clear h hM1 hcl b5 b6 b7 hz0 hB0
  have he2 := apEnd_any H.out 44
  obtain ⟨p, txt, at', was, i, addr, err, perhaps⟩ := s
  have h5' : at' = _ := h5
  subst h5'
  clear h5
  go_wp2_with fail
  go_step3
  go_wp2_with fail
  refine ⟨_, by rw [Hcode.out]; rfl, ?_⟩
  clear Hcode
  go_wp2_with fail
  refine he2.mono ?_
  clear he2
  rintro e w3 ⟨rfl, hA3, hM3⟩
  have HMW3 := Lib.hid (HMW.out.trans hM3)
  clear HMW hM3 c0 c1 c2 c3 c4 c5 c6 c7 c8 f3 f4 f5 f6 f7 f8 H b0 b1 b2 b3 b4
  have d7 := hA3.c7
  have d8 := hA3.c8
  have d3 := hA3.c3
  have d4 := hA3.c4
  have d5 := hA3.c5
  have d6 := hA3.c6
  have g7 := hA3.fr 7 (by omega)
  have HA3 := Lib.hid hA3
  clear hA3
  unfold ApS.over at d3 d4 d5 d6 d7 d8
  simp only at d3 d4 d5 d6 d7 d8
  unfold ApS.full
  cases perhaps
  · go_wp2_with fail
    rw [Exit.noGoto_normal]
    go_end0
    exact ⟨rfl, HA3.out.sub (fun _ _ hk => Or.inl hk), HMW3.out⟩
  · go_wp2_with fail
    rw [Exit.noGoto_normal]
    go_end0
    exact ⟨rfl, (HA3.out.wrote (by exact modC (Mod.refl _ _)) (by go_simp) (by go_simp) (by go_simp) (by go_simp) (by go_simp) (by go_simp) (by go_simp) (by go_simp) (by go_simp) (fun o => by go_simp)).sub (fun _ _ hk => Or.inl hk), HMW3.out.trans (by exact modC (Mod.refl _ _))⟩
set_option maxRecDepth 100000 in
set_option maxHeartbeats 1000000 in
theorem apHear_full2 (h : ApAt w b S s) (h5 : s.at = 2) (hx : x.code = 44) : Calls Tryz.prog 35 #[.pointer (some ⟨b, 0, none⟩), aV x a c, .bool true] w (ApPost w b S s.full) := by
  have hc : x.code ≠ 47 ∧ x.code ≠ 45 ∧ x.code ≠ 40 := by omega
  obtain ⟨xc, xn, xd, ⟨xpe, xls⟩, xm, xs, xe⟩ := x
  obtain ⟨W0, hW0, hB0, hz0, b0, b1, b2, b3, b4, b5, b6, b7⟩ := an_boxA w (.int .i64 xc) (.int .i64 xn) (.string xd) (.int .i64 xpe) (.slice a xls.length c) (.int .i64 xm) (.int .i64 xs) (.int .i64 xe)
  simp only at *
  have he := apEarly_any (h.below hB0) xc true
  rw [ApS.early_no hc] at he
  have HW0 := Lib.hid hW0
  have hlt := h.lt
  have c3 := h.c3
  rw [h5] at c3
  clear hW0 h
  simp only [aV]
  go_enter Tryz.func35, Tryz.ntmps35
  go_wp2_with fail
  clear hc
  subst hx
  refine wp_scope_fwd ?_
  intro code hcode
  have Hcode := Lib.hid hcode
  clear hcode
  go_wp2_with fail
  go_wp2_with fail
  rw [← HW0.out]
  refine he.mono ?_
  clear he
  rintro e w1 ⟨rfl, h, hM1⟩
  clear c3
  have c0 := h.c0
  obtain ⟨ca, cc, c1, hcl⟩ := h.c1
  have c2 := h.c2
  have c3 := h.c3
  have c4 := h.c4
  have c5 := h.c5
  have c6 := h.c6
  have c7 := h.c7
  have c8 := h.c8
  have hl := h.lt
  have f3 := h.fr 3 (by omega)
  have f4 := h.fr 4 (by omega)
  have f5 := h.fr 5 (by omega)
  have f6 := h.fr 6 (by omega)
  have f7 := h.fr 7 (by omega)
  have f8 := h.fr 8 (by omega)
  have H := Lib.hid h
  rw [h5] at c3
  have hbn : w.heap.size ≠ b := by omega
  replace b0 := hM1.at b0 hbn
  replace b1 := hM1.at b1 hbn
  replace b2 := hM1.at b2 hbn
  replace b3 := hM1.at b3 hbn
  replace b4 := hM1.at b4 hbn
  have HMW := Lib.hid ((Mod.of_below hB0 : Mod (· = b) w W0).trans hM1)
  clear h hM1 hcl b5 b6 b7 hz0 hB0
  have he2 := apEnd_any H.out 44
  obtain ⟨p, txt, at', was, i, addr, err, perhaps⟩ := s
  have h5' : at' = _ := h5
  subst h5'
  clear h5
  go_wp2_with fail
  go_step3
  go_wp2_with fail
  refine ⟨_, by rw [Hcode.out]; rfl, ?_⟩
  clear Hcode
  go_wp2_with fail
  refine he2.mono ?_
  clear he2
  rintro e w3 ⟨rfl, hA3, hM3⟩
  have HMW3 := Lib.hid (HMW.out.trans hM3)
  clear HMW hM3 c0 c1 c2 c3 c4 c5 c6 c7 c8 f3 f4 f5 f6 f7 f8 H b0 b1 b2 b3 b4
  have d7 := hA3.c7
  have d8 := hA3.c8
  have d3 := hA3.c3
  have d4 := hA3.c4
  have d5 := hA3.c5
  have d6 := hA3.c6
  have g7 := hA3.fr 7 (by omega)
  have HA3 := Lib.hid hA3
  clear hA3
  unfold ApS.over at d3 d4 d5 d6 d7 d8
  simp only at d3 d4 d5 d6 d7 d8
  unfold ApS.full
  cases perhaps
  · go_wp2_with fail
    rw [Exit.noGoto_normal]
    go_end0
    exact ⟨rfl, HA3.out.sub (fun _ _ hk => Or.inl hk), HMW3.out⟩
  · go_wp2_with fail
    rw [Exit.noGoto_normal]
    go_end0
    exact ⟨rfl, (HA3.out.wrote (by exact modC (Mod.refl _ _)) (by go_simp) (by go_simp) (by go_simp) (by go_simp) (by go_simp) (by go_simp) (by go_simp) (by go_simp) (by go_simp) (fun o => by go_simp)).sub (fun _ _ hk => Or.inl hk), HMW3.out.trans (by exact modC (Mod.refl _ _))⟩
end
end Go.Proofs.YtghdhhbpbmhooaaGreat
/- a record that is appended: a projection that it hears -/
namespace Go.Proofs.YtghdhhbpbmhooaaGreat
open Go.RowKit Esch

section
variable {w : World} {b : Nat} {S : Nat → Prop} {s : ApS} (x : AnS) (a : Option Addr) (c : Nat)
set_option maxRecDepth 100000 in
set_option maxHeartbeats 1000000 in
theorem apHear_layN (h : ApAt w b S s) (h5 : s.at = 0) (hx : x.code = 0) (S' : Nat → Prop) (hl0 : ListsAt S' w a x.p.chains) (hS : ∀ k, S' k → k ≠ b) (hg : goodB x.p = false) : Calls Tryz.prog 35 #[.pointer (some ⟨b, 0, none⟩), aV x a c, .bool true] w (ApPost w b S s) := by
  have hc : x.code ≠ 47 ∧ x.code ≠ 45 ∧ x.code ≠ 40 := by omega
  have HL := Lib.hid hl0
  have Hg := Lib.hid hg
  have HS := Lib.hid hS
  clear hl0 hg hS
  obtain ⟨xc, xn, xd, ⟨xpe, xls⟩, xm, xs, xe⟩ := x
  obtain ⟨W0, hW0, hB0, hz0, b0, b1, b2, b3, b4, b5, b6, b7⟩ := an_boxA w (.int .i64 xc) (.int .i64 xn) (.string xd) (.int .i64 xpe) (.slice a xls.length c) (.int .i64 xm) (.int .i64 xs) (.int .i64 xe)
  simp only at *
  have he := apEarly_any (h.below hB0) xc true
  rw [ApS.early_no hc] at he
  have HW0 := Lib.hid hW0
  have hlt := h.lt
  have c3 := h.c3
  rw [h5] at c3
  clear hW0 h
  simp only [aV]
  go_enter Tryz.func35, Tryz.ntmps35
  go_wp2_with fail
  subst hx
  clear hc
  go_step3
  go_wp2_with fail
  rw [← HW0.out]
  refine he.mono ?_
  clear he
  rintro e w1 ⟨rfl, h, hM1⟩
  clear c3
  have c0 := h.c0
  obtain ⟨ca, cc, c1, hcl⟩ := h.c1
  have c2 := h.c2
  have c3 := h.c3
  have c4 := h.c4
  have c5 := h.c5
  have c6 := h.c6
  have c7 := h.c7
  have c8 := h.c8
  have hl := h.lt
  have f3 := h.fr 3 (by omega)
  have f4 := h.fr 4 (by omega)
  have f5 := h.fr 5 (by omega)
  have f6 := h.fr 6 (by omega)
  have f7 := h.fr 7 (by omega)
  have f8 := h.fr 8 (by omega)
  have H := Lib.hid h
  rw [h5] at c3
  have hbn : w.heap.size ≠ b := by omega
  replace b0 := hM1.at b0 hbn
  replace b1 := hM1.at b1 hbn
  replace b2 := hM1.at b2 hbn
  replace b3 := hM1.at b3 hbn
  replace b4 := hM1.at b4 hbn
  have HMW := Lib.hid ((Mod.of_below hB0 : Mod (· = b) w W0).trans hM1)
  clear h hM1 hcl b5 b6 b7 hz0 hB0
  have hgd := good_any S' w1 xpe a c xls (HL.out.mod HMW.out (fun k hk _ => HS.out k hk))
  rw [show goodB ⟨xpe, xls⟩ = false from Hg.out] at hgd
  go_wp2_with fail
  refine hgd.mono ?_
  clear hgd
  rintro e w2 ⟨rfl, hB2⟩
  have H2 := Lib.hid (H.out.below hB2)
  have HM2 := Lib.hid (HMW.out.trans (Mod.of_below hB2))
  clear hB2 H c0 c1 c2 c3 c4 c5 c6 c7 c8 f3 f4 f5 f6 f7 f8 b0 b1 b2 b3 b4
  go_wp2_with fail
  rw [Exit.noGoto_ret]
  go_end0
  exact ⟨rfl, H2.out.sub (fun _ _ hk => Or.inl hk), HM2.out⟩
set_option maxRecDepth 100000 in
set_option maxHeartbeats 1000000 in
theorem apHear_layG (h : ApAt w b S s) (h5 : s.at = 0) (hx : x.code = 0) (S' : Nat → Prop) (hl0 : ListsAt S' w a x.p.chains) (hS : ∀ k, S' k → k ≠ b) (hg : goodB x.p = true) : Calls Tryz.prog 35 #[.pointer (some ⟨b, 0, none⟩), aV x a c, .bool true] w (ApPost w b S { s with p := x.p, «at» := 2, addr := 0 }) := by
  have hc : x.code ≠ 47 ∧ x.code ≠ 45 ∧ x.code ≠ 40 := by omega
  have HL := Lib.hid hl0
  have Hg := Lib.hid hg
  have HS := Lib.hid hS
  clear hl0 hg hS
  obtain ⟨xc, xn, xd, ⟨xpe, xls⟩, xm, xs, xe⟩ := x
  obtain ⟨W0, hW0, hB0, hz0, b0, b1, b2, b3, b4, b5, b6, b7⟩ := an_boxA w (.int .i64 xc) (.int .i64 xn) (.string xd) (.int .i64 xpe) (.slice a xls.length c) (.int .i64 xm) (.int .i64 xs) (.int .i64 xe)
  simp only at *
  have he := apEarly_any (h.below hB0) xc true
  rw [ApS.early_no hc] at he
  have HW0 := Lib.hid hW0
  have hlt := h.lt
  have c3 := h.c3
  rw [h5] at c3
  clear hW0 h
  simp only [aV]
  go_enter Tryz.func35, Tryz.ntmps35
  go_wp2_with fail
  subst hx
  clear hc
  refine wp_scope_fwd ?_
  intro code hcode
  have Hcode := Lib.hid hcode
  clear hcode
  go_wp2_with fail
  go_wp2_with fail
  rw [← HW0.out]
  refine he.mono ?_
  clear he
  rintro e w1 ⟨rfl, h, hM1⟩
  clear c3
  have c0 := h.c0
  obtain ⟨ca, cc, c1, hcl⟩ := h.c1
  have c2 := h.c2
  have c3 := h.c3
  have c4 := h.c4
  have c5 := h.c5
  have c6 := h.c6
  have c7 := h.c7
  have c8 := h.c8
  have hl := h.lt
  have f3 := h.fr 3 (by omega)
  have f4 := h.fr 4 (by omega)
  have f5 := h.fr 5 (by omega)
  have f6 := h.fr 6 (by omega)
  have f7 := h.fr 7 (by omega)
  have f8 := h.fr 8 (by omega)
  have H := Lib.hid h
  rw [h5] at c3
  have hbn : w.heap.size ≠ b := by omega
  replace b0 := hM1.at b0 hbn
  replace b1 := hM1.at b1 hbn
  replace b2 := hM1.at b2 hbn
  replace b3 := hM1.at b3 hbn
  replace b4 := hM1.at b4 hbn
  have HMW := Lib.hid ((Mod.of_below hB0 : Mod (· = b) w W0).trans hM1)
  clear h hM1 hcl b5 b6 b7 hz0 hB0
  have hgd := good_any S' w1 xpe a c xls (HL.out.mod HMW.out (fun k hk _ => HS.out k hk))
  rw [show goodB ⟨xpe, xls⟩ = true from Hg.out] at hgd
  have HLT := Lib.hid hlt
  clear hlt
  go_wp2_with fail
  refine hgd.mono ?_
  clear hgd
  rintro e w2 ⟨rfl, hB2⟩
  have hl1 : w.heap.size < w1.heap.size := cell_lt b0
  replace b3 := below_at hB2 b3 hl1
  replace b4 := below_at hB2 b4 hl1
  have H2 := Lib.hid (H.out.below hB2)
  have HM2 := Lib.hid (HMW.out.trans (Mod.of_below hB2))
  have hsm := good_small (of_decide_eq_true (show decide (Proj.good ⟨xpe, xls⟩) = true from Hg.out))
  have hcp := copy_any S' w2 xpe a c xls hsm (HL.out.mod HM2.out (fun k hk _ => HS.out k hk))
  have Hsm := Lib.hid hsm
  clear hB2 H HMW hsm hl c0 c1 c2 c3 c4 c5 c6 c7 c8 f3 f4 f5 f6 f7 f8 b0 b1 b2
  go_wp2_with fail
  refine hcp.mono ?_
  clear hcp
  rintro e w3 ⟨ia, ic, rfl, hl3, hB3⟩
  have h := H2.out.below hB3
  have HM3 := Lib.hid (HM2.out.trans (Mod.of_below hB3))
  have HL3 := Lib.hid hl3
  have HZ2 := Lib.hid HM2.out.size
  have HZ3 := Lib.hid hB3.size
  have HBL := Lib.hid H2.out.lt
  clear hB3 hl3 b3 b4 HM2 hl1
  have c0 := h.c0
  obtain ⟨ca, cc, c1, hcl⟩ := h.c1
  have c2 := h.c2
  have c3 := h.c3
  have c4 := h.c4
  have c5 := h.c5
  have c6 := h.c6
  have c7 := h.c7
  have c8 := h.c8
  have hl := h.lt
  have f3 := h.fr 3 (by omega)
  have f4 := h.fr 4 (by omega)
  have f5 := h.fr 5 (by omega)
  have f6 := h.fr 6 (by omega)
  have f7 := h.fr 7 (by omega)
  have f8 := h.fr 8 (by omega)
  have H := Lib.hid h
  have f0 := h.fr 0 (by omega)
  have f1 := h.fr 1 (by omega)
  clear h hcl
  go_wp2_with fail
  go_step3
  go_wp2_with fail
  refine ⟨_, by rw [Hcode.out]; rfl, ?_⟩
  clear Hcode
  go_wp2_with fail
  rw [Exit.noGoto_ret]
  go_end0
  refine ⟨rfl, ⟨by go_simp, ⟨ia, ic, by go_simp, ?_⟩, by go_simp, by go_simp, by go_simp, by go_simp, by go_simp, by go_simp, by go_simp, fun o ho => by have := H.out.fr o ho; go_simp, Or.inl H.out.sb, Hsm.out⟩, HM3.out.trans (by exact modC (Mod.refl _ _))⟩
  refine (HL3.out.mod (F := (· = b)) (by exact modC (Mod.refl _ _)) (fun k hk _ e => ?_)).sub (fun k hkl hk => ?_)
  · have hk : w2.heap.size ≤ k := hk
    have := HBL.out
    omega
  · have hk : w2.heap.size ≤ k := hk
    have z2 := HZ2.out
    have hb := HBL.out
    exact ⟨Or.inr ⟨by omega, hkl⟩, by omega⟩
end
end Go.Proofs.YtghdhhbpbmhooaaGreat
/- a record that is appended: a projection that it hears where it checks -/
namespace Go.Proofs.YtghdhhbpbmhooaaGreat
open Go.RowKit Esch

section
variable {w : World} {b : Nat} {S : Nat → Prop} {s : ApS} (x : AnS) (a : Option Addr) (c : Nat)
set_option maxRecDepth 100000 in
set_option maxHeartbeats 1000000 in
theorem apHear_chkS (h : ApAt w b S s) (h5 : s.at = 1) (hx : x.code = 0) (S' : Nat → Prop) (hl0 : ListsAt S' w a x.p.chains) (hS : ∀ k, S' k → k ≠ b) (hg : goodB x.p = true) (hq : x.p.epoch = s.p.epoch) : Calls Tryz.prog 35 #[.pointer (some ⟨b, 0, none⟩), aV x a c, .bool true] w (ApPost w b S { s with «at» := s.was }) := by
  have hc : x.code ≠ 47 ∧ x.code ≠ 45 ∧ x.code ≠ 40 := by omega
  have HL := Lib.hid hl0
  have Hg := Lib.hid hg
  have HS := Lib.hid hS
  have Hq := Lib.hid hq
  clear hl0 hg hS hq
  obtain ⟨xc, xn, xd, ⟨xpe, xls⟩, xm, xs, xe⟩ := x
  obtain ⟨W0, hW0, hB0, hz0, b0, b1, b2, b3, b4, b5, b6, b7⟩ := an_boxA w (.int .i64 xc) (.int .i64 xn) (.string xd) (.int .i64 xpe) (.slice a xls.length c) (.int .i64 xm) (.int .i64 xs) (.int .i64 xe)
  simp only at *
  have he := apEarly_any (h.below hB0) xc true
  rw [ApS.early_no hc] at he
  have HW0 := Lib.hid hW0
  have hlt := h.lt
  have c3 := h.c3
  rw [h5] at c3
  clear hW0 h
  simp only [aV]
  go_enter Tryz.func35, Tryz.ntmps35
  go_wp2_with fail
  subst hx
  clear hc
  go_step3
  go_wp2_with fail
  rw [← HW0.out]
  refine he.mono ?_
  clear he
  rintro e w1 ⟨rfl, h, hM1⟩
  clear c3
  have c0 := h.c0
  obtain ⟨ca, cc, c1, hcl⟩ := h.c1
  have c2 := h.c2
  have c3 := h.c3
  have c4 := h.c4
  have c5 := h.c5
  have c6 := h.c6
  have c7 := h.c7
  have c8 := h.c8
  have hl := h.lt
  have f3 := h.fr 3 (by omega)
  have f4 := h.fr 4 (by omega)
  have f5 := h.fr 5 (by omega)
  have f6 := h.fr 6 (by omega)
  have f7 := h.fr 7 (by omega)
  have f8 := h.fr 8 (by omega)
  have H := Lib.hid h
  rw [h5] at c3
  have hbn : w.heap.size ≠ b := by omega
  replace b0 := hM1.at b0 hbn
  replace b1 := hM1.at b1 hbn
  replace b2 := hM1.at b2 hbn
  replace b3 := hM1.at b3 hbn
  replace b4 := hM1.at b4 hbn
  have HMW := Lib.hid ((Mod.of_below hB0 : Mod (· = b) w W0).trans hM1)
  clear h hM1 hcl b5 b6 b7 hz0 hB0
  go_wp2_with fail
  obtain ⟨w4, hw4⟩ : ∃ w4, w4 = w1.setCell ⟨b, 3, none⟩ (.int .i64 s.was) := ⟨_, rfl⟩
  rw [← hw4]
  have H4 := Lib.hid (show ApAt w4 b S { s with «at» := s.was } by rw [hw4]; exact H.out.wrote (by exact modC (Mod.refl _ _)) (by go_simp) (by go_simp) (by go_simp) (by go_simp) (by go_simp) (by go_simp) (by go_simp) (by go_simp) (by go_simp) (fun o => by go_simp))
  have HM4 := Lib.hid (show Mod (· = b) w w4 by rw [hw4]; exact HMW.out.trans (by exact modC (Mod.refl _ _)))
  have k3 : w4.drew.cell? ⟨w.heap.size, 3, none⟩ = some (.int .i64 xpe) := by rw [hw4]; go_simp
  have k4 : w4.drew.cell? ⟨w.heap.size, 4, none⟩ = some (.slice a xls.length c) := by rw [hw4]; go_simp
  have ke : w4.drew.cell? ⟨b, 0, none⟩ = some (.int .i64 s.p.epoch) := H4.out.c0
  have hnl : w.heap.size < w4.heap.size := cell_lt k3
  have hbl : b < w4.heap.size := cell_lt ke
  have hgd := good_any S' w4.drew xpe a c xls (HL.out.mod HM4.out.drew (fun k hk _ => HS.out k hk))
  clear hw4 HMW H hlt hl hbn c0 c1 c2 c3 c4 c5 c6 c7 c8 f3 f4 f5 f6 f7 f8 b0 b1 b2 b3 b4
  rw [show goodB ⟨xpe, xls⟩ = true from Hg.out] at hgd
  have eq : (xpe == s.p.epoch) = true := by simpa using Hq.out
  go_region_held3 (fun w' => w'.cell? ⟨w.heap.size, 3, none⟩ = some (.int .i64 xpe) ∧ w'.cell? ⟨w.heap.size, 4, none⟩ = some (.slice a xls.length c) ∧ w'.cell? ⟨b, 0, none⟩ = some (.int .i64 s.p.epoch))
    (first
      | with_reducible exact ⟨k3, k4, ke⟩
      | with_reducible exact ⟨z3, z4, ze⟩)
    ((go_at_call 45; (with_reducible refine hgd.mono ?_); rintro e w5 ⟨rfl, hB5'⟩
      have hB5 : Below w4.heap.size w4 w5 := below_drew hB5'
      clear hB5'
      have z3 := below_at hB5 k3 hnl
      have z4 := below_at hB5 k4 hnl
      have ze := below_at hB5 ke hbl
      have HB5 := Lib.hid hB5))
  all_goals
    clear k3 k4 ke z3 z4 ze hgd
    go_wp2_with fail
    rw [Exit.noGoto_ret]
    go_end0
    exact ⟨rfl, (H4.out.below HB5.out).sub (fun _ _ hk => Or.inl hk), HM4.out.trans (Mod.of_below HB5.out)⟩
end
end Go.Proofs.YtghdhhbpbmhooaaGreat
/- a record that is appended: a projection that it hears where it checks -/
namespace Go.Proofs.YtghdhhbpbmhooaaGreat
open Go.RowKit Esch

section
variable {w : World} {b : Nat} {S : Nat → Prop} {s : ApS} (x : AnS) (a : Option Addr) (c : Nat)
set_option linter.unusedSimpArgs false in
set_option maxRecDepth 100000 in
set_option maxHeartbeats 8000000 in
theorem apHear_chkN (h : ApAt w b S s) (h5 : s.at = 1) (hx : x.code = 0) (S' : Nat → Prop) (hl0 : ListsAt S' w a x.p.chains) (hS : ∀ k, S' k → k ≠ b) (hg : goodB x.p = false) : Calls Tryz.prog 35 #[.pointer (some ⟨b, 0, none⟩), aV x a c, .bool true] w (ApPost w b S { s with «at» := s.was }) := by
  have hc : x.code ≠ 47 ∧ x.code ≠ 45 ∧ x.code ≠ 40 := by omega
  have HL := Lib.hid hl0
  have Hg := Lib.hid hg
  have HS := Lib.hid hS
  clear hl0 hg hS
  obtain ⟨xc, xn, xd, ⟨xpe, xls⟩, xm, xs, xe⟩ := x
  obtain ⟨W0, hW0, hB0, hz0, b0, b1, b2, b3, b4, b5, b6, b7⟩ := an_boxA w (.int .i64 xc) (.int .i64 xn) (.string xd) (.int .i64 xpe) (.slice a xls.length c) (.int .i64 xm) (.int .i64 xs) (.int .i64 xe)
  simp only at *
  have he := apEarly_any (h.below hB0) xc true
  rw [ApS.early_no hc] at he
  have HW0 := Lib.hid hW0
  have hlt := h.lt
  have c3 := h.c3
  rw [h5] at c3
  clear hW0 h
  simp only [aV]
  go_enter Tryz.func35, Tryz.ntmps35
  go_wp2_with fail
  subst hx
  clear hc
  go_step3
  go_wp2_with fail
  rw [← HW0.out]
  refine he.mono ?_
  clear he
  rintro e w1 ⟨rfl, h, hM1⟩
  clear c3
  have c0 := h.c0
  obtain ⟨ca, cc, c1, hcl⟩ := h.c1
  have c2 := h.c2
  have c3 := h.c3
  have c4 := h.c4
  have c5 := h.c5
  have c6 := h.c6
  have c7 := h.c7
  have c8 := h.c8
  have hl := h.lt
  have f3 := h.fr 3 (by omega)
  have f4 := h.fr 4 (by omega)
  have f5 := h.fr 5 (by omega)
  have f6 := h.fr 6 (by omega)
  have f7 := h.fr 7 (by omega)
  have f8 := h.fr 8 (by omega)
  have H := Lib.hid h
  rw [h5] at c3
  have hbn : w.heap.size ≠ b := by omega
  replace b0 := hM1.at b0 hbn
  replace b1 := hM1.at b1 hbn
  replace b2 := hM1.at b2 hbn
  replace b3 := hM1.at b3 hbn
  replace b4 := hM1.at b4 hbn
  have HMW := Lib.hid ((Mod.of_below hB0 : Mod (· = b) w W0).trans hM1)
  clear h hM1 hcl b5 b6 b7 hz0 hB0
  go_wp2_with fail
  obtain ⟨w4, hw4⟩ : ∃ w4, w4 = w1.setCell ⟨b, 3, none⟩ (.int .i64 s.was) := ⟨_, rfl⟩
  rw [← hw4]
  have H4 := Lib.hid (show ApAt w4 b S { s with «at» := s.was } by rw [hw4]; exact H.out.wrote (by exact modC (Mod.refl _ _)) (by go_simp) (by go_simp) (by go_simp) (by go_simp) (by go_simp) (by go_simp) (by go_simp) (by go_simp) (by go_simp) (fun o => by go_simp))
  have HM4 := Lib.hid (show Mod (· = b) w w4 by rw [hw4]; exact HMW.out.trans (by exact modC (Mod.refl _ _)))
  have k3 : w4.drew.cell? ⟨w.heap.size, 3, none⟩ = some (.int .i64 xpe) := by rw [hw4]; go_simp
  have k4 : w4.drew.cell? ⟨w.heap.size, 4, none⟩ = some (.slice a xls.length c) := by rw [hw4]; go_simp
  have ke : w4.drew.cell? ⟨b, 0, none⟩ = some (.int .i64 s.p.epoch) := H4.out.c0
  have hnl : w.heap.size < w4.heap.size := cell_lt k3
  have hbl : b < w4.heap.size := cell_lt ke
  have hgd := good_any S' w4.drew xpe a c xls (HL.out.mod HM4.out.drew (fun k hk _ => HS.out k hk))
  clear hw4 HMW H hlt hl hbn c0 c1 c2 c3 c4 c5 c6 c7 c8 f3 f4 f5 f6 f7 f8 b0 b1 b2 b3 b4
  rw [show goodB ⟨xpe, xls⟩ = false from Hg.out] at hgd
  refine wp_region_held_drew (S := fun w' => w'.cell? ⟨w.heap.size, 3, none⟩ = some (.int .i64 xpe) ∧ w'.cell? ⟨w.heap.size, 4, none⟩ = some (.slice a xls.length c) ∧ w'.cell? ⟨b, 0, none⟩ = some (.int .i64 s.p.epoch)) (by kernel_rfl) ⟨k3, k4, ke⟩ (fun hHeld => ?_)
  refine takeL 0 ?_
  refine takeL 1 ?_
  refine takeL 2 ?_
  refine takeL 3 ?_
  refine takeL 4 ?_
  refine wpAnyH_ready (rs := [5]) (by kernel_rfl) (by simp) ?_
  refine AllReadyH.cons (o := ?_) ?_ (fun K hK => ?_) AllReadyH.nil
  rotate_left 1
  · simp only [List.getElem?_toArray, List.getElem?_cons_succ, List.getElem?_cons_zero]; rfl
  go_simp
  go_at_call 45
  with_reducible refine hgd.mono ?_
  rintro e w5 ⟨rfl, hB5'⟩
  have hB5 : Below w4.heap.size w4 w5 := below_drew hB5'
  clear hB5'
  have z3 := below_at hB5 k3 hnl
  have z4 := below_at hB5 k4 hnl
  have ze := below_at hB5 ke hbl
  have HB5 := Lib.hid hB5
  try go_wp2_with fail
  clear hHeld
  refine hK.out _ _ ⟨z3, z4, ze⟩ (fun hHeld => ?_)
  clear hK K
  try simp only [Act.put, List.setIfInBounds_toArray, List.set_cons_zero, List.set_cons_succ]
  refine takeL 6 ?_
  refine takeL 7 ?_
  refine takeL 8 ?_
  refine takeU 9 ?_
  refine takeU 10 ?_
  refine takeU 11 ?_
  refine takeU 12 ?_
  refine takeU 13 ?_
  refine takeU 14 ?_
  refine takeU 15 ?_
  refine takeU 16 ?_
  refine takeU 17 ?_
  refine takeL 18 ?_
  refine wpAnyH_done (by kernel_rfl) ?_ _
  clear hHeld
  all_goals
    clear k3 k4 ke z3 z4 ze hgd
    go_wp2_with fail
    rw [Exit.noGoto_ret]
    go_end0
    exact ⟨rfl, (H4.out.below HB5.out).sub (fun _ _ hk => Or.inl hk), HM4.out.trans (Mod.of_below HB5.out)⟩
end
end Go.Proofs.YtghdhhbpbmhooaaGreat
/- a record that is appended: a projection that it hears where it checks -/
namespace Go.Proofs.YtghdhhbpbmhooaaGreat
open Go.RowKit Esch

section
variable {w : World} {b : Nat} {S : Nat → Prop} {s : ApS} (x : AnS) (a : Option Addr) (c : Nat)
set_option maxRecDepth 100000 in
set_option maxHeartbeats 1000000 in
theorem apHear_chkG (h : ApAt w b S s) (h5 : s.at = 1) (hx : x.code = 0) (S' : Nat → Prop) (hl0 : ListsAt S' w a x.p.chains) (hS : ∀ k, S' k → k ≠ b) (hg : goodB x.p = true) (hq : x.p.epoch ≠ s.p.epoch) : Calls Tryz.prog 35 #[.pointer (some ⟨b, 0, none⟩), aV x a c, .bool true] w (ApPost w b S { s with p := x.p, «at» := 2, addr := 0 }) := by
  have hc : x.code ≠ 47 ∧ x.code ≠ 45 ∧ x.code ≠ 40 := by omega
  have HL := Lib.hid hl0
  have Hg := Lib.hid hg
  have HS := Lib.hid hS
  have Hq := Lib.hid hq
  clear hl0 hg hS hq
  obtain ⟨xc, xn, xd, ⟨xpe, xls⟩, xm, xs, xe⟩ := x
  obtain ⟨W0, hW0, hB0, hz0, b0, b1, b2, b3, b4, b5, b6, b7⟩ := an_boxA w (.int .i64 xc) (.int .i64 xn) (.string xd) (.int .i64 xpe) (.slice a xls.length c) (.int .i64 xm) (.int .i64 xs) (.int .i64 xe)
  simp only at *
  have he := apEarly_any (h.below hB0) xc true
  rw [ApS.early_no hc] at he
  have HW0 := Lib.hid hW0
  have hlt := h.lt
  have c3 := h.c3
  rw [h5] at c3
  clear hW0 h
  simp only [aV]
  go_enter Tryz.func35, Tryz.ntmps35
  go_wp2_with fail
  subst hx
  clear hc
  refine wp_scope_fwd ?_
  intro code hcode
  have Hcode := Lib.hid hcode
  clear hcode
  go_wp2_with fail
  go_wp2_with fail
  rw [← HW0.out]
  refine he.mono ?_
  clear he
  rintro e w1 ⟨rfl, h, hM1⟩
  clear c3
  have c0 := h.c0
  obtain ⟨ca, cc, c1, hcl⟩ := h.c1
  have c2 := h.c2
  have c3 := h.c3
  have c4 := h.c4
  have c5 := h.c5
  have c6 := h.c6
  have c7 := h.c7
  have c8 := h.c8
  have hl := h.lt
  have f3 := h.fr 3 (by omega)
  have f4 := h.fr 4 (by omega)
  have f5 := h.fr 5 (by omega)
  have f6 := h.fr 6 (by omega)
  have f7 := h.fr 7 (by omega)
  have f8 := h.fr 8 (by omega)
  have H := Lib.hid h
  rw [h5] at c3
  have hbn : w.heap.size ≠ b := by omega
  replace b0 := hM1.at b0 hbn
  replace b1 := hM1.at b1 hbn
  replace b2 := hM1.at b2 hbn
  replace b3 := hM1.at b3 hbn
  replace b4 := hM1.at b4 hbn
  have HMW := Lib.hid ((Mod.of_below hB0 : Mod (· = b) w W0).trans hM1)
  clear h hM1 hcl b5 b6 b7 hz0 hB0
  go_wp2_with fail
  obtain ⟨w4, hw4⟩ : ∃ w4, w4 = w1.setCell ⟨b, 3, none⟩ (.int .i64 s.was) := ⟨_, rfl⟩
  rw [← hw4]
  have H4 := Lib.hid (show ApAt w4 b S { s with «at» := s.was } by rw [hw4]; exact H.out.wrote (by exact modC (Mod.refl _ _)) (by go_simp) (by go_simp) (by go_simp) (by go_simp) (by go_simp) (by go_simp) (by go_simp) (by go_simp) (by go_simp) (fun o => by go_simp))
  have HM4 := Lib.hid (show Mod (· = b) w w4 by rw [hw4]; exact HMW.out.trans (by exact modC (Mod.refl _ _)))
  have k3 : w4.drew.cell? ⟨w.heap.size, 3, none⟩ = some (.int .i64 xpe) := by rw [hw4]; go_simp
  have k4 : w4.drew.cell? ⟨w.heap.size, 4, none⟩ = some (.slice a xls.length c) := by rw [hw4]; go_simp
  have ke : w4.drew.cell? ⟨b, 0, none⟩ = some (.int .i64 s.p.epoch) := H4.out.c0
  have hnl : w.heap.size < w4.heap.size := cell_lt k3
  have hbl : b < w4.heap.size := cell_lt ke
  have hgd := good_any S' w4.drew xpe a c xls (HL.out.mod HM4.out.drew (fun k hk _ => HS.out k hk))
  clear hw4 HMW H hlt hl hbn c0 c1 c2 c3 c4 c5 c6 c7 c8 f3 f4 f5 f6 f7 f8 b0 b1 b2 b3 b4
  rw [show goodB ⟨xpe, xls⟩ = true from Hg.out] at hgd
  have eq : (xpe == s.p.epoch) = false := by simpa using Hq.out
  go_region_held3 (fun w' => w'.cell? ⟨w.heap.size, 3, none⟩ = some (.int .i64 xpe) ∧ w'.cell? ⟨w.heap.size, 4, none⟩ = some (.slice a xls.length c) ∧ w'.cell? ⟨b, 0, none⟩ = some (.int .i64 s.p.epoch))
    (first
      | with_reducible exact ⟨k3, k4, ke⟩
      | with_reducible exact ⟨z3, z4, ze⟩)
    ((go_at_call 45; (with_reducible refine hgd.mono ?_); rintro e w5 ⟨rfl, hB5'⟩
      have hB5 : Below w4.heap.size w4 w5 := below_drew hB5'
      clear hB5'
      have z3 := below_at hB5 k3 hnl
      have z4 := below_at hB5 k4 hnl
      have ze := below_at hB5 ke hbl
      have HB5 := Lib.hid hB5))
  have H2 := Lib.hid (H4.out.below HB5.out)
  have HM2 := Lib.hid (HM4.out.trans (Mod.of_below HB5.out))
  have hsm := good_small (of_decide_eq_true (show decide (Proj.good ⟨xpe, xls⟩) = true from Hg.out))
  have hcp := copy_any S' w5 xpe a c xls hsm (HL.out.mod HM2.out (fun k hk _ => HS.out k hk))
  have Hsm := Lib.hid hsm
  clear k3 k4 ke ze hgd hsm
  go_wp2_with fail
  refine hcp.mono ?_
  clear hcp
  rintro e w3 ⟨ia, ic, rfl, hl3, hB3⟩
  have h := H2.out.below hB3
  have HM3 := Lib.hid (HM2.out.trans (Mod.of_below hB3))
  have HL3 := Lib.hid hl3
  have HZ2 := Lib.hid HM2.out.size
  have HZ3 := Lib.hid hB3.size
  have HBL := Lib.hid H2.out.lt
  clear hB3 hl3 z3 z4 HM2
  have c0 := h.c0
  obtain ⟨ca, cc, c1, hcl⟩ := h.c1
  have c2 := h.c2
  have c3 := h.c3
  have c4 := h.c4
  have c5 := h.c5
  have c6 := h.c6
  have c7 := h.c7
  have c8 := h.c8
  have hl := h.lt
  have f3 := h.fr 3 (by omega)
  have f4 := h.fr 4 (by omega)
  have f5 := h.fr 5 (by omega)
  have f6 := h.fr 6 (by omega)
  have f7 := h.fr 7 (by omega)
  have f8 := h.fr 8 (by omega)
  have H := Lib.hid h
  have f0 := h.fr 0 (by omega)
  have f1 := h.fr 1 (by omega)
  clear h hcl
  go_wp2_with fail
  go_step3
  go_wp2_with fail
  refine ⟨_, by rw [Hcode.out]; rfl, ?_⟩
  clear Hcode
  go_wp2_with fail
  rw [Exit.noGoto_ret]
  go_end0
  refine ⟨rfl, ⟨by go_simp, ⟨ia, ic, by go_simp, ?_⟩, by go_simp, by go_simp, by go_simp, by go_simp, by go_simp, by go_simp, by go_simp, fun o ho => by have := H.out.fr o ho; go_simp, Or.inl H.out.sb, Hsm.out⟩, HM3.out.trans (by exact modC (Mod.refl _ _))⟩
  refine (HL3.out.mod (F := (· = b)) (by exact modC (Mod.refl _ _)) (fun k hk _ e => ?_)).sub (fun k hkl hk => ?_)
  · have hk : w5.heap.size ≤ k := hk
    have := HBL.out
    omega
  · have hk : w5.heap.size ≤ k := hk
    have z2 := HZ2.out
    have hb := HBL.out
    exact ⟨Or.inr ⟨by omega, hkl⟩, by omega⟩
end
end Go.Proofs.YtghdhhbpbmhooaaGreat
/- a record that is appended: a token that it hears -/
namespace Go.Proofs.YtghdhhbpbmhooaaGreat
open Go.RowKit Esch

section
variable {w : World} {b : Nat} {S : Nat → Prop} {s : ApS} (x : AnS) (a : Option Addr) (c : Nat)
set_option maxRecDepth 100000 in
set_option maxHeartbeats 2000000 in
theorem apHear_tokE (h : ApAt w b S s) (h5 : s.at = 2) (hc : x.code ≠ 47 ∧ x.code ≠ 45 ∧ x.code ≠ 40) (h44 : x.code ≠ 44) (h0 : x.code ≠ 0) : Calls Tryz.prog 35 #[.pointer (some ⟨b, 0, none⟩), aV x a c, .bool true] w (ApPost w b S s) := by
  obtain ⟨xc, xn, xd, ⟨xpe, xls⟩, xm, xs, xe⟩ := x
  obtain ⟨W0, hW0, hB0, hz0, b0, b1, b2, b3, b4, b5, b6, b7⟩ := an_boxA w (.int .i64 xc) (.int .i64 xn) (.string xd) (.int .i64 xpe) (.slice a xls.length c) (.int .i64 xm) (.int .i64 xs) (.int .i64 xe)
  simp only at *
  have he := apEarly_any (h.below hB0) xc true
  rw [ApS.early_no hc] at he
  have HW0 := Lib.hid hW0
  have hlt := h.lt
  have c3 := h.c3
  rw [h5] at c3
  clear hW0 h
  simp only [aV]
  go_enter Tryz.func35, Tryz.ntmps35
  go_wp2_with fail
  have e0 : (xc == 0) = false := by simpa using h0
  have e44 : (xc == 44) = false := by simpa using h44
  clear h0 hc h44
  go_step3
  go_wp2_with fail
  rw [← HW0.out]
  refine he.mono ?_
  clear he
  rintro e w1 ⟨rfl, h, hM1⟩
  clear c3
  have c0 := h.c0
  obtain ⟨ca, cc, c1, hcl⟩ := h.c1
  have c2 := h.c2
  have c3 := h.c3
  have c4 := h.c4
  have c5 := h.c5
  have c6 := h.c6
  have c7 := h.c7
  have c8 := h.c8
  have hl := h.lt
  have f3 := h.fr 3 (by omega)
  have f4 := h.fr 4 (by omega)
  have f5 := h.fr 5 (by omega)
  have f6 := h.fr 6 (by omega)
  have f7 := h.fr 7 (by omega)
  have f8 := h.fr 8 (by omega)
  have H := Lib.hid h
  rw [h5] at c3
  have hbn : w.heap.size ≠ b := by omega
  replace b0 := hM1.at b0 hbn
  replace b1 := hM1.at b1 hbn
  replace b2 := hM1.at b2 hbn
  replace b3 := hM1.at b3 hbn
  replace b4 := hM1.at b4 hbn
  have HMW := Lib.hid ((Mod.of_below hB0 : Mod (· = b) w W0).trans hM1)
  clear h hM1 hcl b5 b6 b7 hz0 hB0
  go_wp2_with fail
  clear c1
  obtain ⟨ca, cc, c1, hcl⟩ := H.out.c1
  have hof := fun W (hM : Mod none' w1 W) => placeOf_any _ W s.p ca cc xn (hcl.mod hM (fun _ _ _ => id))
  obtain ⟨r, hr⟩ : ∃ r, r = ofP s.p xn := ⟨_, rfl⟩
  rw [← hr] at hof
  have Hr := Lib.hid hr
  obtain ⟨r0, r1, rb⟩ := r
  have k0 : w1.drew.cell? ⟨b, 0, none⟩ = some (.int .i64 s.p.epoch) := c0
  have k1 : w1.drew.cell? ⟨b, 1, none⟩ = some (.slice ca s.p.chains.length cc) := c1
  have kn : w1.drew.cell? ⟨w.heap.size, 1, none⟩ = some (.int .i64 xn) := b1
  have hlb1 : b < w1.heap.size := hl
  have hln : w.heap.size < w1.heap.size := cell_lt b1
  have hof1 := hof w1.drew ((Mod.refl none' _).drew)
  have k0a : (w1.alloc (.cells #[.int .i64 0, .int .i64 0] 127)).drew.cell? ⟨b, 0, none⟩ = some (.int .i64 s.p.epoch) := (cell_alloc_lt w1 _ b 0 hlb1).trans k0
  have k1a : (w1.alloc (.cells #[.int .i64 0, .int .i64 0] 127)).drew.cell? ⟨b, 1, none⟩ = some (.slice ca s.p.chains.length cc) := (cell_alloc_lt w1 _ b 1 hlb1).trans k1
  have kna : (w1.alloc (.cells #[.int .i64 0, .int .i64 0] 127)).drew.cell? ⟨w.heap.size, 1, none⟩ = some (.int .i64 xn) := (cell_alloc_lt w1 _ w.heap.size 1 hln).trans kn
  have hof2 := hof (w1.alloc (.cells #[.int .i64 0, .int .i64 0] 127)).drew (((Mod.refl none' _).alloc _).drew)
  have b0a : (w1.alloc (.cells #[.int .i64 0, .int .i64 0] 127)).cell? ⟨w1.heap.size, 0, none⟩ = some (.int .i64 0) := by go_simp
  have b1a : (w1.alloc (.cells #[.int .i64 0, .int .i64 0] 127)).cell? ⟨w1.heap.size, 1, none⟩ = some (.int .i64 0) := by go_simp
  have g0a : (w1.alloc (.cells #[.int .i64 0, .int .i64 0] 127)).frozen? ⟨w1.heap.size, 0, none⟩ = false := by go_simp
  have g1a : (w1.alloc (.cells #[.int .i64 0, .int .i64 0] 127)).frozen? ⟨w1.heap.size, 1, none⟩ = false := by go_simp
  clear hof hcl c0 c1 c2 c3 c4 c5 c6 c7 c8 f3 f4 f5 f6 f7 f8 b0 b1 b2 b3 b4 hr
  go_region_held3 (fun w' => w'.cell? ⟨b, 0, none⟩ = some (.int .i64 s.p.epoch) ∧ w'.cell? ⟨b, 1, none⟩ = some (.slice ca s.p.chains.length cc) ∧ w'.cell? ⟨w.heap.size, 1, none⟩ = some (.int .i64 xn))
    (first
      | with_reducible exact ⟨k0, k1, kn⟩
      | with_reducible exact ⟨k0a, k1a, kna⟩
      | with_reducible exact ⟨z0, z1, zn⟩
      | with_reducible exact ⟨z0a _, z1a _, zna _⟩
      | with_reducible exact ⟨z0b, z1b, znb⟩
      | fail)
    (first
      | (go_at_call 64; (with_reducible refine hof1.mono ?_); rintro e w2 ⟨rfl, hB2'⟩
         have hB2 : Below w1.heap.size w1 w2 := below_drew hB2'
         clear hB2'
         have hlb2 : b < w2.heap.size := by have := hB2.size; omega
         have hln2 : w.heap.size < w2.heap.size := by have := hB2.size; omega
         have z0 := below_at hB2 k0 hlb1
         have z1 := below_at hB2 k1 hlb1
         have zn := below_at hB2 kn hln
         have z0a := fun o => (cell_alloc_lt w2 o b 0 hlb2).trans z0
         have z1a := fun o => (cell_alloc_lt w2 o b 1 hlb2).trans z1
         have zna := fun o => (cell_alloc_lt w2 o w.heap.size 1 hln2).trans zn)
      | (go_at_call 64; (with_reducible refine hof2.mono ?_); rintro e w2 ⟨rfl, hB2'⟩
         have hB2 : Below (w1.heap.size + 1) (w1.alloc (.cells #[.int .i64 0, .int .i64 0] 127)) w2 := by have := below_drew hB2'; rwa [show (w1.alloc (.cells #[.int .i64 0, .int .i64 0] 127)).drew.heap.size = w1.heap.size + 1 from World.size_alloc ..] at this
         clear hB2'
         have z0 := below_at hB2 k0a (by omega)
         have z1 := below_at hB2 k1a (by omega)
         have zn := below_at hB2 kna (by omega)
         have z0b := (set2_other w2 w1.heap.size b 0 (.int .i64 r0) (.int .i64 r1) hlb1).trans z0
         have z1b := (set2_other w2 w1.heap.size b 1 (.int .i64 r0) (.int .i64 r1) hlb1).trans z1
         have znb := (set2_other w2 w1.heap.size w.heap.size 1 (.int .i64 r0) (.int .i64 r1) hln).trans zn
         have y0 := below_at hB2 b0a (by omega)
         have y1 := below_at hB2 b1a (by omega)
         have g0 := (hB2.frozen (p := ⟨w1.heap.size, 0, none⟩) (show w1.heap.size < w1.heap.size + 1 by omega)).trans g0a
         have g1 := (hB2.frozen (p := ⟨w1.heap.size, 1, none⟩) (show w1.heap.size < w1.heap.size + 1 by omega)).trans g1a))
  · skip
    obtain ⟨W9, hW9, hB9⟩ : ∃ W9, W9 = w2.alloc (.cells #[.int .i64 r0, .int .i64 r1] 127) ∧ Below w1.heap.size w1 W9 := ⟨_, rfl, by have := hB2.size; exact belC hB2⟩
    rw [← hW9]
    clear hW9 z0a z1a zna hlb2 hln2
    have HMW9 := Lib.hid (HMW.out.trans (Mod.of_below hB9))
    have h := H.out.below hB9
    have b1 : W9.cell? ⟨w.heap.size, 1, none⟩ = some (.int .i64 xn) := below_at hB9 kn hln
    clear k0 k1 kn k0a k1a kna hof1 hof2 b0a b1a g0a g1a z0 z1 zn hB2 hlb1 hln hB9 HMW H hl
    have HMW := HMW9
    clear HMW9
    have c0 := h.c0
    obtain ⟨ca, cc, c1, hcl⟩ := h.c1
    have c2 := h.c2
    have c3 := h.c3
    have c4 := h.c4
    have c5 := h.c5
    have c6 := h.c6
    have c7 := h.c7
    have c8 := h.c8
    have hl := h.lt
    have f3 := h.fr 3 (by omega)
    have f4 := h.fr 4 (by omega)
    have f5 := h.fr 5 (by omega)
    have f6 := h.fr 6 (by omega)
    have f7 := h.fr 7 (by omega)
    have f8 := h.fr 8 (by omega)
    have H := Lib.hid h
    clear h hcl
    rw [h5] at c3
    go_wp2_with fail
    rw [Exit.noGoto_ret]
    go_end0
    exact ⟨rfl, H.out.sub (fun _ _ hk => Or.inl hk), HMW.out⟩
  · skip
    obtain ⟨W9, hW9, hB9⟩ : ∃ W9, W9 = (w2.setCell ⟨w1.heap.size, 0, none⟩ (.int .i64 r0)).setCell ⟨w1.heap.size, 1, none⟩ (.int .i64 r1) ∧ Below w1.heap.size w1 W9 := ⟨_, rfl, by
      have h1 : Below w1.heap.size w1 w2 := ((Below.refl _ _).alloc (Nat.le_refl _) _).trans (hB2.mono (by omega))
      exact belC h1⟩
    rw [← hW9]
    clear hW9 z0b z1b znb y0 y1 g0 g1
    have HMW9 := Lib.hid (HMW.out.trans (Mod.of_below hB9))
    have h := H.out.below hB9
    have b1 : W9.cell? ⟨w.heap.size, 1, none⟩ = some (.int .i64 xn) := below_at hB9 kn hln
    clear k0 k1 kn k0a k1a kna hof1 hof2 b0a b1a g0a g1a z0 z1 zn hB2 hlb1 hln hB9 HMW H hl
    have HMW := HMW9
    clear HMW9
    have c0 := h.c0
    obtain ⟨ca, cc, c1, hcl⟩ := h.c1
    have c2 := h.c2
    have c3 := h.c3
    have c4 := h.c4
    have c5 := h.c5
    have c6 := h.c6
    have c7 := h.c7
    have c8 := h.c8
    have hl := h.lt
    have f3 := h.fr 3 (by omega)
    have f4 := h.fr 4 (by omega)
    have f5 := h.fr 5 (by omega)
    have f6 := h.fr 6 (by omega)
    have f7 := h.fr 7 (by omega)
    have f8 := h.fr 8 (by omega)
    have H := Lib.hid h
    clear h hcl
    rw [h5] at c3
    go_wp2_with fail
    rw [Exit.noGoto_ret]
    go_end0
    exact ⟨rfl, H.out.sub (fun _ _ hk => Or.inl hk), HMW.out⟩
set_option maxRecDepth 100000 in
set_option maxHeartbeats 2000000 in
theorem apHear_tokN (h : ApAt w b S s) (h5 : s.at = 2) (hx : x.code = 0) (ho : (ofP s.p x.n).2.2 = false) : Calls Tryz.prog 35 #[.pointer (some ⟨b, 0, none⟩), aV x a c, .bool true] w (ApPost w b S s) := by
  have hc : x.code ≠ 47 ∧ x.code ≠ 45 ∧ x.code ≠ 40 := by omega
  have Ho := Lib.hid ho
  clear ho
  obtain ⟨xc, xn, xd, ⟨xpe, xls⟩, xm, xs, xe⟩ := x
  obtain ⟨W0, hW0, hB0, hz0, b0, b1, b2, b3, b4, b5, b6, b7⟩ := an_boxA w (.int .i64 xc) (.int .i64 xn) (.string xd) (.int .i64 xpe) (.slice a xls.length c) (.int .i64 xm) (.int .i64 xs) (.int .i64 xe)
  simp only at *
  have he := apEarly_any (h.below hB0) xc true
  rw [ApS.early_no hc] at he
  have HW0 := Lib.hid hW0
  have hlt := h.lt
  have c3 := h.c3
  rw [h5] at c3
  clear hW0 h
  simp only [aV]
  go_enter Tryz.func35, Tryz.ntmps35
  go_wp2_with fail
  subst hx
  clear hc
  go_step3
  go_wp2_with fail
  rw [← HW0.out]
  refine he.mono ?_
  clear he
  rintro e w1 ⟨rfl, h, hM1⟩
  clear c3
  have c0 := h.c0
  obtain ⟨ca, cc, c1, hcl⟩ := h.c1
  have c2 := h.c2
  have c3 := h.c3
  have c4 := h.c4
  have c5 := h.c5
  have c6 := h.c6
  have c7 := h.c7
  have c8 := h.c8
  have hl := h.lt
  have f3 := h.fr 3 (by omega)
  have f4 := h.fr 4 (by omega)
  have f5 := h.fr 5 (by omega)
  have f6 := h.fr 6 (by omega)
  have f7 := h.fr 7 (by omega)
  have f8 := h.fr 8 (by omega)
  have H := Lib.hid h
  rw [h5] at c3
  have hbn : w.heap.size ≠ b := by omega
  replace b0 := hM1.at b0 hbn
  replace b1 := hM1.at b1 hbn
  replace b2 := hM1.at b2 hbn
  replace b3 := hM1.at b3 hbn
  replace b4 := hM1.at b4 hbn
  have HMW := Lib.hid ((Mod.of_below hB0 : Mod (· = b) w W0).trans hM1)
  clear h hM1 hcl b5 b6 b7 hz0 hB0
  go_wp2_with fail
  clear c1
  obtain ⟨ca, cc, c1, hcl⟩ := H.out.c1
  have hof := fun W (hM : Mod none' w1 W) => placeOf_any _ W s.p ca cc xn (hcl.mod hM (fun _ _ _ => id))
  obtain ⟨r, hr⟩ : ∃ r, r = ofP s.p xn := ⟨_, rfl⟩
  rw [← hr] at hof
  have Hr := Lib.hid hr
  obtain ⟨r0, r1, rb⟩ := r
  have k0 : w1.drew.cell? ⟨b, 0, none⟩ = some (.int .i64 s.p.epoch) := c0
  have k1 : w1.drew.cell? ⟨b, 1, none⟩ = some (.slice ca s.p.chains.length cc) := c1
  have kn : w1.drew.cell? ⟨w.heap.size, 1, none⟩ = some (.int .i64 xn) := b1
  have hlb1 : b < w1.heap.size := hl
  have hln : w.heap.size < w1.heap.size := cell_lt b1
  have hof1 := hof w1.drew ((Mod.refl none' _).drew)
  have k0a : (w1.alloc (.cells #[.int .i64 0, .int .i64 0] 127)).drew.cell? ⟨b, 0, none⟩ = some (.int .i64 s.p.epoch) := (cell_alloc_lt w1 _ b 0 hlb1).trans k0
  have k1a : (w1.alloc (.cells #[.int .i64 0, .int .i64 0] 127)).drew.cell? ⟨b, 1, none⟩ = some (.slice ca s.p.chains.length cc) := (cell_alloc_lt w1 _ b 1 hlb1).trans k1
  have kna : (w1.alloc (.cells #[.int .i64 0, .int .i64 0] 127)).drew.cell? ⟨w.heap.size, 1, none⟩ = some (.int .i64 xn) := (cell_alloc_lt w1 _ w.heap.size 1 hln).trans kn
  have hof2 := hof (w1.alloc (.cells #[.int .i64 0, .int .i64 0] 127)).drew (((Mod.refl none' _).alloc _).drew)
  have b0a : (w1.alloc (.cells #[.int .i64 0, .int .i64 0] 127)).cell? ⟨w1.heap.size, 0, none⟩ = some (.int .i64 0) := by go_simp
  have b1a : (w1.alloc (.cells #[.int .i64 0, .int .i64 0] 127)).cell? ⟨w1.heap.size, 1, none⟩ = some (.int .i64 0) := by go_simp
  have g0a : (w1.alloc (.cells #[.int .i64 0, .int .i64 0] 127)).frozen? ⟨w1.heap.size, 0, none⟩ = false := by go_simp
  have g1a : (w1.alloc (.cells #[.int .i64 0, .int .i64 0] 127)).frozen? ⟨w1.heap.size, 1, none⟩ = false := by go_simp
  clear hof hcl c0 c1 c2 c3 c4 c5 c6 c7 c8 f3 f4 f5 f6 f7 f8 b0 b1 b2 b3 b4 hr
  go_region_held3 (fun w' => w'.cell? ⟨b, 0, none⟩ = some (.int .i64 s.p.epoch) ∧ w'.cell? ⟨b, 1, none⟩ = some (.slice ca s.p.chains.length cc) ∧ w'.cell? ⟨w.heap.size, 1, none⟩ = some (.int .i64 xn))
    (first
      | with_reducible exact ⟨k0, k1, kn⟩
      | with_reducible exact ⟨k0a, k1a, kna⟩
      | with_reducible exact ⟨z0, z1, zn⟩
      | with_reducible exact ⟨z0a _, z1a _, zna _⟩
      | with_reducible exact ⟨z0b, z1b, znb⟩
      | fail)
    (first
      | (go_at_call 64; (with_reducible refine hof1.mono ?_); rintro e w2 ⟨rfl, hB2'⟩
         have hB2 : Below w1.heap.size w1 w2 := below_drew hB2'
         clear hB2'
         have hlb2 : b < w2.heap.size := by have := hB2.size; omega
         have hln2 : w.heap.size < w2.heap.size := by have := hB2.size; omega
         have z0 := below_at hB2 k0 hlb1
         have z1 := below_at hB2 k1 hlb1
         have zn := below_at hB2 kn hln
         have z0a := fun o => (cell_alloc_lt w2 o b 0 hlb2).trans z0
         have z1a := fun o => (cell_alloc_lt w2 o b 1 hlb2).trans z1
         have zna := fun o => (cell_alloc_lt w2 o w.heap.size 1 hln2).trans zn)
      | (go_at_call 64; (with_reducible refine hof2.mono ?_); rintro e w2 ⟨rfl, hB2'⟩
         have hB2 : Below (w1.heap.size + 1) (w1.alloc (.cells #[.int .i64 0, .int .i64 0] 127)) w2 := by have := below_drew hB2'; rwa [show (w1.alloc (.cells #[.int .i64 0, .int .i64 0] 127)).drew.heap.size = w1.heap.size + 1 from World.size_alloc ..] at this
         clear hB2'
         have z0 := below_at hB2 k0a (by omega)
         have z1 := below_at hB2 k1a (by omega)
         have zn := below_at hB2 kna (by omega)
         have z0b := (set2_other w2 w1.heap.size b 0 (.int .i64 r0) (.int .i64 r1) hlb1).trans z0
         have z1b := (set2_other w2 w1.heap.size b 1 (.int .i64 r0) (.int .i64 r1) hlb1).trans z1
         have znb := (set2_other w2 w1.heap.size w.heap.size 1 (.int .i64 r0) (.int .i64 r1) hln).trans zn
         have y0 := below_at hB2 b0a (by omega)
         have y1 := below_at hB2 b1a (by omega)
         have g0 := (hB2.frozen (p := ⟨w1.heap.size, 0, none⟩) (show w1.heap.size < w1.heap.size + 1 by omega)).trans g0a
         have g1 := (hB2.frozen (p := ⟨w1.heap.size, 1, none⟩) (show w1.heap.size < w1.heap.size + 1 by omega)).trans g1a))
  · obtain rfl : rb = false := by have := Ho.out; rw [← Hr.out] at this; exact this
    obtain ⟨W9, hW9, hB9⟩ : ∃ W9, W9 = w2.alloc (.cells #[.int .i64 r0, .int .i64 r1] 127) ∧ Below w1.heap.size w1 W9 := ⟨_, rfl, by have := hB2.size; exact belC hB2⟩
    rw [← hW9]
    clear hW9 z0a z1a zna hlb2 hln2
    have HMW9 := Lib.hid (HMW.out.trans (Mod.of_below hB9))
    have h := H.out.below hB9
    have b1 : W9.cell? ⟨w.heap.size, 1, none⟩ = some (.int .i64 xn) := below_at hB9 kn hln
    clear k0 k1 kn k0a k1a kna hof1 hof2 b0a b1a g0a g1a z0 z1 zn hB2 hlb1 hln hB9 HMW H hl
    have HMW := HMW9
    clear HMW9
    have c0 := h.c0
    obtain ⟨ca, cc, c1, hcl⟩ := h.c1
    have c2 := h.c2
    have c3 := h.c3
    have c4 := h.c4
    have c5 := h.c5
    have c6 := h.c6
    have c7 := h.c7
    have c8 := h.c8
    have hl := h.lt
    have f3 := h.fr 3 (by omega)
    have f4 := h.fr 4 (by omega)
    have f5 := h.fr 5 (by omega)
    have f6 := h.fr 6 (by omega)
    have f7 := h.fr 7 (by omega)
    have f8 := h.fr 8 (by omega)
    have H := Lib.hid h
    clear h hcl
    rw [h5] at c3
    go_wp2_with fail
    rw [Exit.noGoto_ret]
    go_end0
    exact ⟨rfl, H.out.sub (fun _ _ hk => Or.inl hk), HMW.out⟩
  · obtain rfl : rb = false := by have := Ho.out; rw [← Hr.out] at this; exact this
    obtain ⟨W9, hW9, hB9⟩ : ∃ W9, W9 = (w2.setCell ⟨w1.heap.size, 0, none⟩ (.int .i64 r0)).setCell ⟨w1.heap.size, 1, none⟩ (.int .i64 r1) ∧ Below w1.heap.size w1 W9 := ⟨_, rfl, by
      have h1 : Below w1.heap.size w1 w2 := ((Below.refl _ _).alloc (Nat.le_refl _) _).trans (hB2.mono (by omega))
      exact belC h1⟩
    rw [← hW9]
    clear hW9 z0b z1b znb y0 y1 g0 g1
    have HMW9 := Lib.hid (HMW.out.trans (Mod.of_below hB9))
    have h := H.out.below hB9
    have b1 : W9.cell? ⟨w.heap.size, 1, none⟩ = some (.int .i64 xn) := below_at hB9 kn hln
    clear k0 k1 kn k0a k1a kna hof1 hof2 b0a b1a g0a g1a z0 z1 zn hB2 hlb1 hln hB9 HMW H hl
    have HMW := HMW9
    clear HMW9
    have c0 := h.c0
    obtain ⟨ca, cc, c1, hcl⟩ := h.c1
    have c2 := h.c2
    have c3 := h.c3
    have c4 := h.c4
    have c5 := h.c5
    have c6 := h.c6
    have c7 := h.c7
    have c8 := h.c8
    have hl := h.lt
    have f3 := h.fr 3 (by omega)
    have f4 := h.fr 4 (by omega)
    have f5 := h.fr 5 (by omega)
    have f6 := h.fr 6 (by omega)
    have f7 := h.fr 7 (by omega)
    have f8 := h.fr 8 (by omega)
    have H := Lib.hid h
    clear h hcl
    rw [h5] at c3
    go_wp2_with fail
    rw [Exit.noGoto_ret]
    go_end0
    exact ⟨rfl, H.out.sub (fun _ _ hk => Or.inl hk), HMW.out⟩
set_option maxRecDepth 100000 in
set_option maxHeartbeats 2000000 in
theorem apHear_tokG (h : ApAt w b S s) (h5 : s.at = 2) (hx : x.code = 0) (ho : (ofP s.p x.n).2.2 = true) : Calls Tryz.prog 35 #[.pointer (some ⟨b, 0, none⟩), aV x a c, .bool true] w (ApPost w b S { s with «at» := 3, i := 0, addr := x.n }) := by
  have hc : x.code ≠ 47 ∧ x.code ≠ 45 ∧ x.code ≠ 40 := by omega
  have Ho := Lib.hid ho
  clear ho
  obtain ⟨xc, xn, xd, ⟨xpe, xls⟩, xm, xs, xe⟩ := x
  obtain ⟨W0, hW0, hB0, hz0, b0, b1, b2, b3, b4, b5, b6, b7⟩ := an_boxA w (.int .i64 xc) (.int .i64 xn) (.string xd) (.int .i64 xpe) (.slice a xls.length c) (.int .i64 xm) (.int .i64 xs) (.int .i64 xe)
  simp only at *
  have he := apEarly_any (h.below hB0) xc true
  rw [ApS.early_no hc] at he
  have HW0 := Lib.hid hW0
  have hlt := h.lt
  have c3 := h.c3
  rw [h5] at c3
  clear hW0 h
  simp only [aV]
  go_enter Tryz.func35, Tryz.ntmps35
  go_wp2_with fail
  subst hx
  clear hc
  go_step3
  go_wp2_with fail
  rw [← HW0.out]
  refine he.mono ?_
  clear he
  rintro e w1 ⟨rfl, h, hM1⟩
  clear c3
  have c0 := h.c0
  obtain ⟨ca, cc, c1, hcl⟩ := h.c1
  have c2 := h.c2
  have c3 := h.c3
  have c4 := h.c4
  have c5 := h.c5
  have c6 := h.c6
  have c7 := h.c7
  have c8 := h.c8
  have hl := h.lt
  have f3 := h.fr 3 (by omega)
  have f4 := h.fr 4 (by omega)
  have f5 := h.fr 5 (by omega)
  have f6 := h.fr 6 (by omega)
  have f7 := h.fr 7 (by omega)
  have f8 := h.fr 8 (by omega)
  have H := Lib.hid h
  rw [h5] at c3
  have hbn : w.heap.size ≠ b := by omega
  replace b0 := hM1.at b0 hbn
  replace b1 := hM1.at b1 hbn
  replace b2 := hM1.at b2 hbn
  replace b3 := hM1.at b3 hbn
  replace b4 := hM1.at b4 hbn
  have HMW := Lib.hid ((Mod.of_below hB0 : Mod (· = b) w W0).trans hM1)
  clear h hM1 hcl b5 b6 b7 hz0 hB0
  go_wp2_with fail
  clear c1
  obtain ⟨ca, cc, c1, hcl⟩ := H.out.c1
  have hof := fun W (hM : Mod none' w1 W) => placeOf_any _ W s.p ca cc xn (hcl.mod hM (fun _ _ _ => id))
  obtain ⟨r, hr⟩ : ∃ r, r = ofP s.p xn := ⟨_, rfl⟩
  rw [← hr] at hof
  have Hr := Lib.hid hr
  obtain ⟨r0, r1, rb⟩ := r
  have k0 : w1.drew.cell? ⟨b, 0, none⟩ = some (.int .i64 s.p.epoch) := c0
  have k1 : w1.drew.cell? ⟨b, 1, none⟩ = some (.slice ca s.p.chains.length cc) := c1
  have kn : w1.drew.cell? ⟨w.heap.size, 1, none⟩ = some (.int .i64 xn) := b1
  have hlb1 : b < w1.heap.size := hl
  have hln : w.heap.size < w1.heap.size := cell_lt b1
  have hof1 := hof w1.drew ((Mod.refl none' _).drew)
  have k0a : (w1.alloc (.cells #[.int .i64 0, .int .i64 0] 127)).drew.cell? ⟨b, 0, none⟩ = some (.int .i64 s.p.epoch) := (cell_alloc_lt w1 _ b 0 hlb1).trans k0
  have k1a : (w1.alloc (.cells #[.int .i64 0, .int .i64 0] 127)).drew.cell? ⟨b, 1, none⟩ = some (.slice ca s.p.chains.length cc) := (cell_alloc_lt w1 _ b 1 hlb1).trans k1
  have kna : (w1.alloc (.cells #[.int .i64 0, .int .i64 0] 127)).drew.cell? ⟨w.heap.size, 1, none⟩ = some (.int .i64 xn) := (cell_alloc_lt w1 _ w.heap.size 1 hln).trans kn
  have hof2 := hof (w1.alloc (.cells #[.int .i64 0, .int .i64 0] 127)).drew (((Mod.refl none' _).alloc _).drew)
  have b0a : (w1.alloc (.cells #[.int .i64 0, .int .i64 0] 127)).cell? ⟨w1.heap.size, 0, none⟩ = some (.int .i64 0) := by go_simp
  have b1a : (w1.alloc (.cells #[.int .i64 0, .int .i64 0] 127)).cell? ⟨w1.heap.size, 1, none⟩ = some (.int .i64 0) := by go_simp
  have g0a : (w1.alloc (.cells #[.int .i64 0, .int .i64 0] 127)).frozen? ⟨w1.heap.size, 0, none⟩ = false := by go_simp
  have g1a : (w1.alloc (.cells #[.int .i64 0, .int .i64 0] 127)).frozen? ⟨w1.heap.size, 1, none⟩ = false := by go_simp
  clear hof hcl c0 c1 c2 c3 c4 c5 c6 c7 c8 f3 f4 f5 f6 f7 f8 b0 b1 b2 b3 b4 hr
  go_region_held3 (fun w' => w'.cell? ⟨b, 0, none⟩ = some (.int .i64 s.p.epoch) ∧ w'.cell? ⟨b, 1, none⟩ = some (.slice ca s.p.chains.length cc) ∧ w'.cell? ⟨w.heap.size, 1, none⟩ = some (.int .i64 xn))
    (first
      | with_reducible exact ⟨k0, k1, kn⟩
      | with_reducible exact ⟨k0a, k1a, kna⟩
      | with_reducible exact ⟨z0, z1, zn⟩
      | with_reducible exact ⟨z0a _, z1a _, zna _⟩
      | with_reducible exact ⟨z0b, z1b, znb⟩
      | fail)
    (first
      | (go_at_call 64; (with_reducible refine hof1.mono ?_); rintro e w2 ⟨rfl, hB2'⟩
         have hB2 : Below w1.heap.size w1 w2 := below_drew hB2'
         clear hB2'
         have hlb2 : b < w2.heap.size := by have := hB2.size; omega
         have hln2 : w.heap.size < w2.heap.size := by have := hB2.size; omega
         have z0 := below_at hB2 k0 hlb1
         have z1 := below_at hB2 k1 hlb1
         have zn := below_at hB2 kn hln
         have z0a := fun o => (cell_alloc_lt w2 o b 0 hlb2).trans z0
         have z1a := fun o => (cell_alloc_lt w2 o b 1 hlb2).trans z1
         have zna := fun o => (cell_alloc_lt w2 o w.heap.size 1 hln2).trans zn)
      | (go_at_call 64; (with_reducible refine hof2.mono ?_); rintro e w2 ⟨rfl, hB2'⟩
         have hB2 : Below (w1.heap.size + 1) (w1.alloc (.cells #[.int .i64 0, .int .i64 0] 127)) w2 := by have := below_drew hB2'; rwa [show (w1.alloc (.cells #[.int .i64 0, .int .i64 0] 127)).drew.heap.size = w1.heap.size + 1 from World.size_alloc ..] at this
         clear hB2'
         have z0 := below_at hB2 k0a (by omega)
         have z1 := below_at hB2 k1a (by omega)
         have zn := below_at hB2 kna (by omega)
         have z0b := (set2_other w2 w1.heap.size b 0 (.int .i64 r0) (.int .i64 r1) hlb1).trans z0
         have z1b := (set2_other w2 w1.heap.size b 1 (.int .i64 r0) (.int .i64 r1) hlb1).trans z1
         have znb := (set2_other w2 w1.heap.size w.heap.size 1 (.int .i64 r0) (.int .i64 r1) hln).trans zn
         have y0 := below_at hB2 b0a (by omega)
         have y1 := below_at hB2 b1a (by omega)
         have g0 := (hB2.frozen (p := ⟨w1.heap.size, 0, none⟩) (show w1.heap.size < w1.heap.size + 1 by omega)).trans g0a
         have g1 := (hB2.frozen (p := ⟨w1.heap.size, 1, none⟩) (show w1.heap.size < w1.heap.size + 1 by omega)).trans g1a))
  · obtain rfl : rb = true := by have := Ho.out; rw [← Hr.out] at this; exact this
    obtain ⟨W9, hW9, hB9⟩ : ∃ W9, W9 = w2.alloc (.cells #[.int .i64 r0, .int .i64 r1] 127) ∧ Below w1.heap.size w1 W9 := ⟨_, rfl, by have := hB2.size; exact belC hB2⟩
    rw [← hW9]
    clear hW9 z0a z1a zna hlb2 hln2
    have HMW9 := Lib.hid (HMW.out.trans (Mod.of_below hB9))
    have h := H.out.below hB9
    have b1 : W9.cell? ⟨w.heap.size, 1, none⟩ = some (.int .i64 xn) := below_at hB9 kn hln
    clear k0 k1 kn k0a k1a kna hof1 hof2 b0a b1a g0a g1a z0 z1 zn hB2 hlb1 hln hB9 HMW H hl
    have HMW := HMW9
    clear HMW9
    have c0 := h.c0
    obtain ⟨ca, cc, c1, hcl⟩ := h.c1
    have c2 := h.c2
    have c3 := h.c3
    have c4 := h.c4
    have c5 := h.c5
    have c6 := h.c6
    have c7 := h.c7
    have c8 := h.c8
    have hl := h.lt
    have f3 := h.fr 3 (by omega)
    have f4 := h.fr 4 (by omega)
    have f5 := h.fr 5 (by omega)
    have f6 := h.fr 6 (by omega)
    have f7 := h.fr 7 (by omega)
    have f8 := h.fr 8 (by omega)
    have H := Lib.hid h
    clear h hcl
    rw [h5] at c3
    go_wp2_with fail
    go_region
    all_goals
      go_wp2_with fail
      rw [Exit.noGoto_ret]
      go_end0
      refine ⟨rfl, (H.out.wrote (by exact modC (Mod.refl _ _)) (by go_simp) (by go_simp) (by go_simp) (by go_simp) (by go_simp) (by go_simp) (by go_simp) (by go_simp) (by go_simp) (fun o => by go_simp)).sub (fun _ _ hk => Or.inl hk), HMW.out.trans (by exact modC (Mod.refl _ _))⟩
  · obtain rfl : rb = true := by have := Ho.out; rw [← Hr.out] at this; exact this
    obtain ⟨W9, hW9, hB9⟩ : ∃ W9, W9 = (w2.setCell ⟨w1.heap.size, 0, none⟩ (.int .i64 r0)).setCell ⟨w1.heap.size, 1, none⟩ (.int .i64 r1) ∧ Below w1.heap.size w1 W9 := ⟨_, rfl, by
      have h1 : Below w1.heap.size w1 w2 := ((Below.refl _ _).alloc (Nat.le_refl _) _).trans (hB2.mono (by omega))
      exact belC h1⟩
    rw [← hW9]
    clear hW9 z0b z1b znb y0 y1 g0 g1
    have HMW9 := Lib.hid (HMW.out.trans (Mod.of_below hB9))
    have h := H.out.below hB9
    have b1 : W9.cell? ⟨w.heap.size, 1, none⟩ = some (.int .i64 xn) := below_at hB9 kn hln
    clear k0 k1 kn k0a k1a kna hof1 hof2 b0a b1a g0a g1a z0 z1 zn hB2 hlb1 hln hB9 HMW H hl
    have HMW := HMW9
    clear HMW9
    have c0 := h.c0
    obtain ⟨ca, cc, c1, hcl⟩ := h.c1
    have c2 := h.c2
    have c3 := h.c3
    have c4 := h.c4
    have c5 := h.c5
    have c6 := h.c6
    have c7 := h.c7
    have c8 := h.c8
    have hl := h.lt
    have f3 := h.fr 3 (by omega)
    have f4 := h.fr 4 (by omega)
    have f5 := h.fr 5 (by omega)
    have f6 := h.fr 6 (by omega)
    have f7 := h.fr 7 (by omega)
    have f8 := h.fr 8 (by omega)
    have H := Lib.hid h
    clear h hcl
    rw [h5] at c3
    go_wp2_with fail
    go_region
    all_goals
      go_wp2_with fail
      rw [Exit.noGoto_ret]
      go_end0
      refine ⟨rfl, (H.out.wrote (by exact modC (Mod.refl _ _)) (by go_simp) (by go_simp) (by go_simp) (by go_simp) (by go_simp) (by go_simp) (by go_simp) (by go_simp) (by go_simp) (fun o => by go_simp)).sub (fun _ _ hk => Or.inl hk), HMW.out.trans (by exact modC (Mod.refl _ _))⟩
end
end Go.Proofs.YtghdhhbpbmhooaaGreat
/- a record that is appended: the next unit -/
namespace Go.Proofs.YtghdhhbpbmhooaaGreat
open Go.RowKit Esch

section
variable {w : World} {b : Nat} {S : Nat → Prop} {s : ApS} (x : AnS) (a : Option Addr) (c : Nat)
set_option maxRecDepth 100000 in
set_option maxHeartbeats 2000000 in
theorem apHear_next4 (h : ApAt w b S s) (h5 : s.at = 4) (hx : x.code = 0) (hd : x.data = s.txt) (k : Nat) (hi : s.i = k) (hil : k < (chainP s.p s.addr).length) (hk : k < 1000) : Calls Tryz.prog 35 #[.pointer (some ⟨b, 0, none⟩), aV x a c, .bool true] w (ApPost w b S s.next) := by
  have hc : x.code ≠ 47 ∧ x.code ≠ 45 ∧ x.code ≠ 40 := by omega
  obtain ⟨l, hle⟩ : ∃ l, l = chainP s.p s.addr := ⟨_, rfl⟩
  rw [← hle] at hil
  have Hle := Lib.hid hle
  have Hil := Lib.hid hil
  have Hi := Lib.hid hi
  have i0 : (0 : Int) ≤ k := by omega
  have i1 : (k : Int) < 1000 := by omega
  clear hle hil hi hk
  have Hd := Lib.hid hd
  clear hd
  obtain ⟨xc, xn, xd, ⟨xpe, xls⟩, xm, xs, xe⟩ := x
  obtain ⟨W0, hW0, hB0, hz0, b0, b1, b2, b3, b4, b5, b6, b7⟩ := an_boxA w (.int .i64 xc) (.int .i64 xn) (.string xd) (.int .i64 xpe) (.slice a xls.length c) (.int .i64 xm) (.int .i64 xs) (.int .i64 xe)
  simp only at *
  have he := apEarly_any (h.below hB0) xc true
  rw [ApS.early_no hc] at he
  have HW0 := Lib.hid hW0
  have hlt := h.lt
  have c3 := h.c3
  rw [h5] at c3
  clear hW0 h
  simp only [aV]
  go_enter Tryz.func35, Tryz.ntmps35
  go_wp2_with fail
  obtain rfl : xd = s.txt := Hd.out
  clear Hd hc
  subst hx
  refine wp_scope_fwd ?_
  intro code hcode
  have Hcode := Lib.hid hcode
  clear hcode
  go_wp2_with fail
  go_wp2_with fail
  rw [← HW0.out]
  refine he.mono ?_
  clear he
  rintro e w1 ⟨rfl, h, hM1⟩
  clear c3
  have c0 := h.c0
  obtain ⟨ca, cc, c1, hcl⟩ := h.c1
  have c2 := h.c2
  have c3 := h.c3
  have c4 := h.c4
  have c5 := h.c5
  have c6 := h.c6
  have c7 := h.c7
  have c8 := h.c8
  have hl := h.lt
  have f3 := h.fr 3 (by omega)
  have f4 := h.fr 4 (by omega)
  have f5 := h.fr 5 (by omega)
  have f6 := h.fr 6 (by omega)
  have f7 := h.fr 7 (by omega)
  have f8 := h.fr 8 (by omega)
  have H := Lib.hid h
  rw [h5] at c3
  have hbn : w.heap.size ≠ b := by omega
  replace b0 := hM1.at b0 hbn
  replace b1 := hM1.at b1 hbn
  replace b2 := hM1.at b2 hbn
  replace b3 := hM1.at b3 hbn
  replace b4 := hM1.at b4 hbn
  have HMW := Lib.hid ((Mod.of_below hB0 : Mod (· = b) w W0).trans hM1)
  clear h hM1 hcl b5 b6 b7 hz0 hB0
  rw [Hi.out] at c5
  go_wp2_with fail
  go_region
  go_wp2_with fail
  go_step3
  go_wp2_with fail
  refine ⟨_, by rw [Hcode.out]; rfl, ?_⟩
  clear Hcode
  go_wp2_with fail
  obtain ⟨w4, hw4⟩ : ∃ w4, w4 = ((w1.setCell ⟨b, 5, none⟩ (.int .i64 ((k : Int) + 1))).setCell ⟨b, 3, none⟩ (.int .i64 3)).drew := ⟨_, rfl⟩
  rw [← hw4]
  have H4 := Lib.hid (show ApAt w4 b S (⟨s.p, s.txt, 3, s.was, (k : Int) + 1, s.addr, s.err, s.perhaps⟩ : ApS) by rw [hw4]; exact H.out.wrote (by exact modC (Mod.refl _ _)) (by go_simp) (by go_simp) (by go_simp) (by go_simp) (by go_simp) (by go_simp) (by go_simp) (by go_simp) (by go_simp) (fun o => by go_simp))
  have HM4 := Lib.hid (show Mod (· = b) w w4 by rw [hw4]; exact HMW.out.trans (by exact modC (Mod.refl _ _)))
  clear hw4 c0 c1 c2 c3 c4 c5 c6 c7 c8 f3 f4 f5 f6 f7 f8 b0 b1 b2 b3 b4 H HMW hlt hl hbn
  obtain ⟨ca, cc, k1', hcl⟩ := H4.out.c1
  have hlb : b < w4.heap.size := H4.out.lt
  have k0 : w4.drew.cell? ⟨b, 0, none⟩ = some (.int .i64 s.p.epoch) := H4.out.c0
  have k1 : w4.drew.cell? ⟨b, 1, none⟩ = some (.slice ca s.p.chains.length cc) := k1'
  have k5 : w4.drew.cell? ⟨b, 5, none⟩ = some (.int .i64 ((k : Int) + 1)) := H4.out.c5
  have k6 : w4.drew.cell? ⟨b, 6, none⟩ = some (.int .i64 s.addr) := H4.out.c6
  have hch := placeChain_any _ w4.drew s.p ca cc s.addr (hcl.mod ((Mod.refl none' _).drew) (fun _ _ _ => id))
  rw [← Hle.out] at hch
  clear hcl k1'
  go_region_held3 (fun w' => w'.cell? ⟨b, 0, none⟩ = some (.int .i64 s.p.epoch) ∧ w'.cell? ⟨b, 1, none⟩ = some (.slice ca s.p.chains.length cc) ∧ w'.cell? ⟨b, 5, none⟩ = some (.int .i64 ((k : Int) + 1)) ∧ w'.cell? ⟨b, 6, none⟩ = some (.int .i64 s.addr))
    (first
      | with_reducible exact ⟨k0, k1, k5, k6⟩
      | with_reducible exact ⟨z0, z1, z5, z6⟩)
    ((go_at_call 65; (with_reducible refine hch.mono ?_); rintro e w5 ⟨a5, n5, rfl, hl5, hB5', -⟩
      have hB5 : Below w4.heap.size w4 w5 := below_drew hB5'
      clear hB5' hl5
      have z0 := below_at hB5 k0 hlb
      have z1 := below_at hB5 k1 hlb
      have z5 := below_at hB5 k5 hlb
      have z6 := below_at hB5 k6 hlb
      have HB5 := Lib.hid hB5))
  have h := H4.out.below HB5.out
  have HMW := Lib.hid (HM4.out.trans (Mod.of_below HB5.out))
  clear k0 k1 k5 k6 z0 z1 z5 z6 hch hB5 HB5 H4 HM4 hlb
  have c0 := h.c0
  obtain ⟨ca, cc, c1, hcl⟩ := h.c1
  have c2 := h.c2
  have c3 := h.c3
  have c4 := h.c4
  have c5 := h.c5
  have c6 := h.c6
  have c7 := h.c7
  have c8 := h.c8
  have hl := h.lt
  have f3 := h.fr 3 (by omega)
  have f4 := h.fr 4 (by omega)
  have f5 := h.fr 5 (by omega)
  have f6 := h.fr 6 (by omega)
  have f7 := h.fr 7 (by omega)
  have f8 := h.fr 8 (by omega)
  have H := Lib.hid h
  clear h hcl
  rcases Nat.lt_or_ge (k + 1) l.length with hkl | hkl
  · have he : ((k : Int) + 1 == (l.length : Int)) = false := by rw [beq_eq_false_iff_ne]; omega
    have hne : ¬ (k : Int) + 1 = (chainP s.p s.addr).length := by have := Hle.out; rw [← this]; omega
    have Hne := Lib.hid hne
    clear hkl hne
    go_wp2_with fail
    try rw [Exit.noGoto_ret]
    go_end0
    unfold ApS.next
    simp only [Hi.out]
    rw [if_neg Hne.out]
    exact ⟨rfl, H.out.sub (fun _ _ hk => Or.inl hk), HMW.out⟩
  · have hkl' : k + 1 = l.length := by have := Hil.out; omega
    have he : ((k : Int) + 1 == (l.length : Int)) = true := by rw [beq_iff_eq]; omega
    have hne : (k : Int) + 1 = (chainP s.p s.addr).length := by have := Hle.out; rw [← this]; omega
    have Hne := Lib.hid hne
    clear hkl hne hkl'
    go_wp2_with fail
    try rw [Exit.noGoto_ret]
    go_end0
    unfold ApS.next
    simp only [Hi.out]
    rw [if_pos Hne.out]
    refine ⟨rfl, (H.out.wrote (by exact modC (Mod.refl _ _)) (by go_simp) (by go_simp) (by go_simp) (by go_simp) (by go_simp) (by go_simp) (by go_simp) (by go_simp) (by go_simp) (fun o => by go_simp)).sub (fun _ _ hk => Or.inl hk), HMW.out.trans (by exact modC (Mod.refl _ _))⟩
set_option maxRecDepth 100000 in
set_option maxHeartbeats 2000000 in
theorem apHear_next3 (h : ApAt w b S s) (h5 : s.at = 3) (hx : x.code = 0) (k : Nat) (hi : s.i = k) (hil : k < (chainP s.p s.addr).length) (hk : k < 1000) : Calls Tryz.prog 35 #[.pointer (some ⟨b, 0, none⟩), aV x a c, .bool true] w (ApPost w b S ({ s with perhaps := true } : ApS).next) := by
  have hc : x.code ≠ 47 ∧ x.code ≠ 45 ∧ x.code ≠ 40 := by omega
  obtain ⟨l, hle⟩ : ∃ l, l = chainP s.p s.addr := ⟨_, rfl⟩
  rw [← hle] at hil
  have Hle := Lib.hid hle
  have Hil := Lib.hid hil
  have Hi := Lib.hid hi
  have i0 : (0 : Int) ≤ k := by omega
  have i1 : (k : Int) < 1000 := by omega
  clear hle hil hi hk
  obtain ⟨xc, xn, xd, ⟨xpe, xls⟩, xm, xs, xe⟩ := x
  obtain ⟨W0, hW0, hB0, hz0, b0, b1, b2, b3, b4, b5, b6, b7⟩ := an_boxA w (.int .i64 xc) (.int .i64 xn) (.string xd) (.int .i64 xpe) (.slice a xls.length c) (.int .i64 xm) (.int .i64 xs) (.int .i64 xe)
  simp only at *
  have he := apEarly_any (h.below hB0) xc true
  rw [ApS.early_no hc] at he
  have HW0 := Lib.hid hW0
  have hlt := h.lt
  have c3 := h.c3
  rw [h5] at c3
  clear hW0 h
  simp only [aV]
  go_enter Tryz.func35, Tryz.ntmps35
  go_wp2_with fail
  clear hc
  subst hx
  refine wp_scope_fwd ?_
  intro code hcode
  have Hcode := Lib.hid hcode
  clear hcode
  go_wp2_with fail
  go_wp2_with fail
  rw [← HW0.out]
  refine he.mono ?_
  clear he
  rintro e w1 ⟨rfl, h, hM1⟩
  clear c3
  have c0 := h.c0
  obtain ⟨ca, cc, c1, hcl⟩ := h.c1
  have c2 := h.c2
  have c3 := h.c3
  have c4 := h.c4
  have c5 := h.c5
  have c6 := h.c6
  have c7 := h.c7
  have c8 := h.c8
  have hl := h.lt
  have f3 := h.fr 3 (by omega)
  have f4 := h.fr 4 (by omega)
  have f5 := h.fr 5 (by omega)
  have f6 := h.fr 6 (by omega)
  have f7 := h.fr 7 (by omega)
  have f8 := h.fr 8 (by omega)
  have H := Lib.hid h
  rw [h5] at c3
  have hbn : w.heap.size ≠ b := by omega
  replace b0 := hM1.at b0 hbn
  replace b1 := hM1.at b1 hbn
  replace b2 := hM1.at b2 hbn
  replace b3 := hM1.at b3 hbn
  replace b4 := hM1.at b4 hbn
  have HMW := Lib.hid ((Mod.of_below hB0 : Mod (· = b) w W0).trans hM1)
  clear h hM1 hcl b5 b6 b7 hz0 hB0
  rw [Hi.out] at c5
  go_wp2_with fail
  go_step3
  go_wp2_with fail
  refine ⟨_, by rw [Hcode.out]; rfl, ?_⟩
  clear Hcode
  go_wp2_with fail
  obtain ⟨w4, hw4⟩ : ∃ w4, w4 = ((w1.setCell ⟨b, 8, none⟩ (.bool true)).setCell ⟨b, 5, none⟩ (.int .i64 ((k : Int) + 1))).setCell ⟨b, 3, none⟩ (.int .i64 3) := ⟨_, rfl⟩
  rw [← hw4]
  have H4 := Lib.hid (show ApAt w4 b S (⟨s.p, s.txt, 3, s.was, (k : Int) + 1, s.addr, s.err, true⟩ : ApS) by rw [hw4]; exact H.out.wrote (by exact modC (Mod.refl _ _)) (by go_simp) (by go_simp) (by go_simp) (by go_simp) (by go_simp) (by go_simp) (by go_simp) (by go_simp) (by go_simp) (fun o => by go_simp))
  have HM4 := Lib.hid (show Mod (· = b) w w4 by rw [hw4]; exact HMW.out.trans (by exact modC (Mod.refl _ _)))
  clear hw4 c0 c1 c2 c3 c4 c5 c6 c7 c8 f3 f4 f5 f6 f7 f8 b0 b1 b2 b3 b4 H HMW hlt hl hbn
  obtain ⟨ca, cc, k1', hcl⟩ := H4.out.c1
  have hlb : b < w4.heap.size := H4.out.lt
  have k0 : w4.drew.cell? ⟨b, 0, none⟩ = some (.int .i64 s.p.epoch) := H4.out.c0
  have k1 : w4.drew.cell? ⟨b, 1, none⟩ = some (.slice ca s.p.chains.length cc) := k1'
  have k5 : w4.drew.cell? ⟨b, 5, none⟩ = some (.int .i64 ((k : Int) + 1)) := H4.out.c5
  have k6 : w4.drew.cell? ⟨b, 6, none⟩ = some (.int .i64 s.addr) := H4.out.c6
  have hch := placeChain_any _ w4.drew s.p ca cc s.addr (hcl.mod ((Mod.refl none' _).drew) (fun _ _ _ => id))
  rw [← Hle.out] at hch
  clear hcl k1'
  go_region_held3 (fun w' => w'.cell? ⟨b, 0, none⟩ = some (.int .i64 s.p.epoch) ∧ w'.cell? ⟨b, 1, none⟩ = some (.slice ca s.p.chains.length cc) ∧ w'.cell? ⟨b, 5, none⟩ = some (.int .i64 ((k : Int) + 1)) ∧ w'.cell? ⟨b, 6, none⟩ = some (.int .i64 s.addr))
    (first
      | with_reducible exact ⟨k0, k1, k5, k6⟩
      | with_reducible exact ⟨z0, z1, z5, z6⟩)
    ((go_at_call 65; (with_reducible refine hch.mono ?_); rintro e w5 ⟨a5, n5, rfl, hl5, hB5', -⟩
      have hB5 : Below w4.heap.size w4 w5 := below_drew hB5'
      clear hB5' hl5
      have z0 := below_at hB5 k0 hlb
      have z1 := below_at hB5 k1 hlb
      have z5 := below_at hB5 k5 hlb
      have z6 := below_at hB5 k6 hlb
      have HB5 := Lib.hid hB5))
  have h := H4.out.below HB5.out
  have HMW := Lib.hid (HM4.out.trans (Mod.of_below HB5.out))
  clear k0 k1 k5 k6 z0 z1 z5 z6 hch hB5 HB5 H4 HM4 hlb
  have c0 := h.c0
  obtain ⟨ca, cc, c1, hcl⟩ := h.c1
  have c2 := h.c2
  have c3 := h.c3
  have c4 := h.c4
  have c5 := h.c5
  have c6 := h.c6
  have c7 := h.c7
  have c8 := h.c8
  have hl := h.lt
  have f3 := h.fr 3 (by omega)
  have f4 := h.fr 4 (by omega)
  have f5 := h.fr 5 (by omega)
  have f6 := h.fr 6 (by omega)
  have f7 := h.fr 7 (by omega)
  have f8 := h.fr 8 (by omega)
  have H := Lib.hid h
  clear h hcl
  rcases Nat.lt_or_ge (k + 1) l.length with hkl | hkl
  · have he : ((k : Int) + 1 == (l.length : Int)) = false := by rw [beq_eq_false_iff_ne]; omega
    have hne : ¬ (k : Int) + 1 = (chainP s.p s.addr).length := by have := Hle.out; rw [← this]; omega
    have Hne := Lib.hid hne
    clear hkl hne
    go_wp2_with fail
    try rw [Exit.noGoto_ret]
    go_end0
    unfold ApS.next
    simp only [Hi.out]
    rw [if_neg Hne.out]
    exact ⟨rfl, H.out.sub (fun _ _ hk => Or.inl hk), HMW.out⟩
  · have hkl' : k + 1 = l.length := by have := Hil.out; omega
    have he : ((k : Int) + 1 == (l.length : Int)) = true := by rw [beq_iff_eq]; omega
    have hne : (k : Int) + 1 = (chainP s.p s.addr).length := by have := Hle.out; rw [← this]; omega
    have Hne := Lib.hid hne
    clear hkl hne hkl'
    go_wp2_with fail
    try rw [Exit.noGoto_ret]
    go_end0
    unfold ApS.next
    simp only [Hi.out]
    rw [if_pos Hne.out]
    refine ⟨rfl, (H.out.wrote (by exact modC (Mod.refl _ _)) (by go_simp) (by go_simp) (by go_simp) (by go_simp) (by go_simp) (by go_simp) (by go_simp) (by go_simp) (by go_simp) (fun o => by go_simp)).sub (fun _ _ hk => Or.inl hk), HMW.out.trans (by exact modC (Mod.refl _ _))⟩
end
end Go.Proofs.YtghdhhbpbmhooaaGreat
/- a record that is appended: whatever it hears -/
namespace Go.Proofs.YtghdhhbpbmhooaaGreat
open Go.RowKit Esch

theorem chainP_lt {p : Proj} {x : Int} (h : (ofP p x).2.2 = true) : 1 ≤ (chainP p x).length ∧ (chainP p x).length ≤ 4 := by
  obtain ⟨k, hk, hl⟩ := ofP_lt h
  obtain ⟨-, -, -, -, h2, -⟩ := (of_decide_eq_true (ofP_ok h).1 : p.good)
  unfold chainP
  rw [if_pos h, hk, Int.toNat_natCast]
  exact h2 _ (by rw [List.getD_eq_getElem?_getD, List.getElem?_eq_getElem hl, Option.getD_some]; exact List.getElem_mem hl)
section
variable {w : World} {b : Nat} {S : Nat → Prop} {s : ApS} (x : AnS) (a : Option Addr) (c : Nat)
theorem apHear_any (h : ApAt w b S s) (hk : s.ok) (bb : Bool) (S' : Nat → Prop) (hl0 : ListsAt S' w a x.p.chains) (hS : ∀ k, S' k → k ≠ b) : Calls Tryz.prog 35 #[.pointer (some ⟨b, 0, none⟩), aV x a c, .bool bb] w (ApPost w b S (s.hear x bb)) := by
  by_cases h5 : s.at = 5
  · rw [show s.hear x bb = s by unfold ApS.hear; rw [if_pos h5]]
    exact apHear_end x a c bb h h5
  by_cases hy : (s.early x.code bb).2 = true
  · rw [show s.hear x bb = (s.early x.code bb).1 by
      unfold ApS.hear ApS.early at *
      rw [if_neg h5]
      by_cases hb : bb = false
      · rw [if_pos hb, if_pos hb]
      · rw [if_neg hb, if_neg hb] at *
        by_cases h1 : x.code = 47
        · rw [if_pos h1, if_pos h1]
        · rw [if_neg h1, if_neg h1] at *
          by_cases h2 : x.code = 45
          · rw [if_pos h2, if_pos h2]
          · rw [if_neg h2, if_neg h2] at *
            by_cases h3 : x.code = 40
            · rw [if_pos h3, if_pos h3]
            · rw [if_neg h3] at hy
              cases hy]
    exact apHear_early x a c bb h h5 hy
  · have hb : bb = true := by
      cases bb
      · exact absurd rfl hy
      · rfl
    subst hb
    have hc : x.code ≠ 47 ∧ x.code ≠ 45 ∧ x.code ≠ 40 := by
      refine ⟨fun e => hy ?_, fun e => hy ?_, fun e => hy ?_⟩ <;> · unfold ApS.early; simp [e]
    have hr : s.hear x true = (if s.at = 0 then (if x.code = 0 ∧ goodB x.p = true then { s with p := x.p, «at» := 2, addr := 0 } else s)
      else if s.at = 1 then (if x.code = 0 ∧ goodB x.p = true ∧ x.p.epoch ≠ s.p.epoch then { s with p := x.p, «at» := 2, addr := 0 } else { s with «at» := s.was })
      else if s.at = 2 then (if x.code = 44 then s.full else if x.code = 0 ∧ (ofP s.p x.n).2.2 = true then { s with «at» := 3, i := 0, addr := x.n } else s)
      else if s.at = 3 then (if x.code = 0 then ({ s with perhaps := true } : ApS).next else if x.code = 41 then { s with «at» := 4 } else if x.code = 43 then s.token else if x.code = 44 then s.full else s.over x.code)
      else (if x.code = 0 ∧ x.data = s.txt then s.next else if x.code = 0 ∨ x.code = 46 ∨ x.code = 43 then s.token else if x.code = 42 then { s with «at» := 3 } else s.over x.code)) := by
      unfold ApS.hear
      rw [if_neg h5, if_neg (by simp), if_neg hc.1, if_neg hc.2.1, if_neg hc.2.2]
    rw [hr]
    rcases hk.wh with h0 | h1 | h2 | h3 | h4 | h9
    · rw [if_pos h0]
      by_cases e : x.code = 0
      · cases hg : goodB x.p
        · rw [if_neg (by simp)]
          exact apHear_layN x a c h h0 e S' hl0 hS hg
        · rw [if_pos ⟨e, rfl⟩]
          exact apHear_layG x a c h h0 e S' hl0 hS hg
      · rw [if_neg (fun h => e h.1)]
        exact apHear_layE x a c h h0 hc e
    · rw [if_neg (by omega), if_pos h1]
      by_cases e : x.code = 0
      · cases hg : goodB x.p
        · rw [if_neg (by simp)]
          exact apHear_chkN x a c h h1 e S' hl0 hS hg
        · by_cases hq : x.p.epoch = s.p.epoch
          · rw [if_neg (fun h => h.2.2 hq)]
            exact apHear_chkS x a c h h1 e S' hl0 hS hg hq
          · rw [if_pos ⟨e, rfl, hq⟩]
            exact apHear_chkG x a c h h1 e S' hl0 hS hg hq
      · rw [if_neg (fun h => e h.1)]
        exact apHear_chkE x a c h h1 hc e
    · rw [if_neg (by omega), if_neg (by omega), if_pos h2]
      by_cases e4 : x.code = 44
      · rw [if_pos e4]
        exact apHear_full2 x a c h h2 e4
      · rw [if_neg e4]
        by_cases e : x.code = 0
        · cases ho : (ofP s.p x.n).2.2
          · rw [if_neg (by simp)]
            exact apHear_tokN x a c h h2 e ho
          · rw [if_pos ⟨e, rfl⟩]
            exact apHear_tokG x a c h h2 e ho
        · rw [if_neg (fun h => e h.1)]
          exact apHear_tokE x a c h h2 hc e4 e
    · rw [if_neg (by omega), if_neg (by omega), if_neg (by omega), if_pos h3]
      obtain ⟨u0, u1, u2⟩ := hk.un (Or.inr (Or.inl h3))
      have u3 := chainP_lt u0
      by_cases e : x.code = 0
      · rw [if_pos e]
        exact apHear_next3 x a c h h3 e s.i.toNat (by omega) (by omega) (by omega)
      · rw [if_neg e]
        by_cases e1 : x.code = 41
        · rw [if_pos e1]
          exact apHear_written x a c h h3 e1
        · rw [if_neg e1]
          by_cases e3 : x.code = 43
          · rw [if_pos e3]
            exact apHear_trimmed3 x a c h h3 e3
          · rw [if_neg e3]
            by_cases e4 : x.code = 44
            · rw [if_pos e4]
              exact apHear_full3 x a c h h3 e4
            · rw [if_neg e4]
              exact apHear_end3 x a c h h3 hc ⟨e, e1, e3, e4⟩
    · rw [if_neg (by omega), if_neg (by omega), if_neg (by omega), if_neg (by omega)]
      obtain ⟨u0, u1, u2⟩ := hk.un (Or.inr (Or.inr h4))
      have u3 := chainP_lt u0
      by_cases e : x.code = 0 ∧ x.data = s.txt
      · rw [if_pos e]
        exact apHear_next4 x a c h h4 e.1 e.2 s.i.toNat (by omega) (by omega) (by omega)
      · rw [if_neg e]
        by_cases e0 : x.code = 0
        · rw [if_pos (Or.inl e0)]
          exact apHear_tokenD x a c h h4 e0 (fun ed => e ⟨e0, ed⟩)
        · by_cases e1 : x.code = 46 ∨ x.code = 43
          · rw [if_pos (Or.inr e1)]
            exact apHear_token4 x a c h h4 e1
          · rw [if_neg (fun h => h.elim e0 e1)]
            by_cases e2 : x.code = 42
            · rw [if_pos e2]
              exact apHear_unwrit x a c h h4 e2
            · rw [if_neg e2]
              exact apHear_end4 x a c h h4 hc ⟨e0, fun e => e1 (Or.inl e), fun e => e1 (Or.inr e), e2⟩
    · exact absurd h9 h5
end
theorem ap0_ok (q : Proj) (rec : ByteArray) : (ap0 q rec).ok := by
  unfold ap0
  split
  · exact ⟨by simp, by simp, by simp⟩
  · split
    · exact ⟨by simp, by simp, by simp⟩
    · exact ⟨by simp, by simp, by simp⟩
theorem ApS.next_ok {s t : ApS} (h : s.ok) (e1 : t.p = s.p) (e2 : t.addr = s.addr) (e3 : t.i = s.i) (e4 : s.at = 1 ∨ s.at = 3 ∨ s.at = 4) : t.next.ok := by
  obtain ⟨u0, u1, u2⟩ := h.un e4
  unfold ApS.next
  rw [e1, e2, e3]
  by_cases e : s.i + 1 = (chainP s.p s.addr).length
  · rw [if_pos e]
    exact ⟨by simp, by simp, by simp⟩
  · rw [if_neg e]
    have h2 : s.i + 1 < ((chainP s.p s.addr).length : Int) := by omega
    have h1 : 0 ≤ s.i + 1 := by omega
    refine ⟨by simp, by simp, fun _ => ?_⟩
    exact ⟨u0, h1, h2⟩
theorem ApS.full_ok (s : ApS) : s.full.ok := ⟨by simp [ApS.full], by simp [ApS.full], by simp [ApS.full]⟩
theorem ApS.token_ok (s : ApS) : s.token.ok := ⟨by simp [ApS.token], by simp [ApS.token], by simp [ApS.token]⟩
theorem ApS.over_ok (s : ApS) (e : Int) : (s.over e).ok := ⟨by simp [ApS.over], by simp [ApS.over], by simp [ApS.over]⟩
theorem ApS.hear_ok {s : ApS} (h : s.ok) (x : AnS) (bb : Bool) : (s.hear x bb).ok := by
  have un := h.un
  have hw := h.was
  have hh := h.wh
  unfold ApS.hear
  by_cases h5 : s.at = 5
  · rw [if_pos h5]; exact h
  rw [if_neg h5]
  by_cases hb : bb = false
  · rw [if_pos hb]; exact ⟨h.wh, h.was, h.un⟩
  rw [if_neg hb]
  by_cases e1 : x.code = 47
  · rw [if_pos e1]; exact h
  rw [if_neg e1]
  by_cases e2 : x.code = 45
  · rw [if_pos e2]
    by_cases e : s.at = 3 ∨ s.at = 4
    · rw [if_pos e]; exact ⟨by simp, fun _ => e, fun _ => un (Or.inr e)⟩
    · rw [if_neg e]; exact h
  rw [if_neg e2]
  by_cases e3 : x.code = 40
  · rw [if_pos e3]; exact ⟨by simp, by simp, by simp⟩
  rw [if_neg e3]
  by_cases a0 : s.at = 0
  · rw [if_pos a0]
    by_cases e : x.code = 0 ∧ goodB x.p = true
    · rw [if_pos e]; exact ⟨by simp, by simp, by simp⟩
    · rw [if_neg e]; exact h
  rw [if_neg a0]
  by_cases a1 : s.at = 1
  · rw [if_pos a1]
    by_cases e : x.code = 0 ∧ goodB x.p = true ∧ x.p.epoch ≠ s.p.epoch
    · rw [if_pos e]; exact ⟨by simp, by simp, by simp⟩
    · rw [if_neg e]
      have := hw a1
      exact ⟨by show s.was = 0 ∨ s.was = 1 ∨ s.was = 2 ∨ s.was = 3 ∨ s.was = 4 ∨ s.was = 5; omega, fun e' => by have e' : s.was = 1 := e'; omega, fun _ => un (Or.inl a1)⟩
  rw [if_neg a1]
  by_cases a2 : s.at = 2
  · rw [if_pos a2]
    by_cases e : x.code = 44
    · rw [if_pos e]; exact ApS.full_ok s
    rw [if_neg e]
    by_cases e' : x.code = 0 ∧ (ofP s.p x.n).2.2 = true
    · rw [if_pos e']
      refine ⟨by simp, by simp, fun _ => ⟨e'.2, by simp, ?_⟩⟩
      have := chainP_lt e'.2
      show (0 : Int) < (chainP s.p x.n).length
      omega
    · rw [if_neg e']; exact h
  rw [if_neg a2]
  by_cases a3 : s.at = 3
  · rw [if_pos a3]
    by_cases b0 : x.code = 0
    · rw [if_pos b0]; exact ApS.next_ok h rfl rfl rfl (Or.inr (Or.inl a3))
    rw [if_neg b0]
    by_cases b1 : x.code = 41
    · rw [if_pos b1]; exact ⟨by simp, by simp, fun _ => un (Or.inr (Or.inl a3))⟩
    rw [if_neg b1]
    by_cases b3 : x.code = 43
    · rw [if_pos b3]; exact ApS.token_ok s
    rw [if_neg b3]
    by_cases b4 : x.code = 44
    · rw [if_pos b4]; exact ApS.full_ok s
    · rw [if_neg b4]; exact ApS.over_ok s _
  rw [if_neg a3]
  have e4 : s.at = 4 := by omega
  by_cases b0 : x.code = 0 ∧ x.data = s.txt
  · rw [if_pos b0]; exact ApS.next_ok h rfl rfl rfl (Or.inr (Or.inr e4))
  rw [if_neg b0]
  by_cases b1 : x.code = 0 ∨ x.code = 46 ∨ x.code = 43
  · rw [if_pos b1]; exact ApS.token_ok s
  rw [if_neg b1]
  by_cases b2 : x.code = 42
  · rw [if_pos b2]; exact ⟨by simp, by simp, fun _ => un (Or.inr (Or.inr e4))⟩
  · rw [if_neg b2]; exact ApS.over_ok s _
end Go.Proofs.YtghdhhbpbmhooaaGreat
/- a hand and a record that is appended by it -/
namespace Go.Proofs.YtghdhhbpbmhooaaGreat
open Go.RowKit Esch

structure Ap1 (w0 : World) (c hb ab : Nat) (V : Nat → Prop) (hd : HdS) (ap : ApS) (w : World) : Prop where
  at' : ∃ U S T, HandAt w hb U T hd ∧ T ≤ 16 * (c + 1) ∧ ApAt w ab S ap ∧ (∀ k, S k → k < w.heap.size) ∧ (∀ k, U k → ¬ S k) ∧ ∀ k, U k ∨ S k → V k
  ok : ap.ok
  lt : ∀ k, V k → k < w.heap.size
  old : ∀ k, V k → w0.heap.size ≤ k
  below : Below w0.heap.size w0 w
def Ap1HPost (w0 : World) (c hb ab : Nat) (V : Nat → Prop) (w : World) (ap : ApS) (r : (AnS × Bool) × HdS) (e : Ending) (w' : World) : Prop :=
  ∃ a cc, e = .returned (.tuple #[aV r.1.1 a cc, .bool r.1.2]) ∧ ListsAt (From w.heap.size) w' a r.1.1.p.chains ∧ Ap1 w0 c hb ab (grow V w w') r.2 ap w' ∧ Mod V w w'
def Ap1Post (w0 : World) (c hb ab : Nat) (V : Nat → Prop) (w : World) (hd : HdS) (ap : ApS) (e : Ending) (w' : World) : Prop := e = .returned (.tuple #[]) ∧ Ap1 w0 c hb ab (grow V w w') hd ap w' ∧ Mod V w w'
def OverV (s : ApS) : Value := if s.at = 5 then .tuple #[.int .i64 s.addr, .int .i64 s.err, .bool true] else .tuple #[.int .i64 0, .int .i64 0, .bool false]
section
variable {w0 w : World} {c hb ab : Nat} {V : Nat → Prop} {hd : HdS} {ap : ApS}
theorem Ap1.mod {F : Nat → Prop} {w' : World} (h : Ap1 w0 c hb ab V hd ap w) (hM : Mod F w w') (hF : ∀ k, V k → ¬ F k) (hw : ∀ k, k < w0.heap.size → ¬ F k) : Ap1 w0 c hb ab V hd ap w' := by
  obtain ⟨⟨U, S, T, hH, hT, hA, hs, hu, hv⟩, hk, hl, ho, hB⟩ := h
  have hz := hM.size
  exact ⟨⟨U, S, T, hH.mod hM (fun k hk => hF k (hv k (Or.inl hk))), hT, hA.mod hM (fun k hk _ => hF k (hv k (Or.inr hk))), fun k hk => Nat.lt_of_lt_of_le (hs k hk) hz, hu, hv⟩, hk, fun k hk => Nat.lt_of_lt_of_le (hl k hk) hz, ho, hB.trans (hM.below_at hB.size hw)⟩
theorem Ap1.below' {w' : World} (h : Ap1 w0 c hb ab V hd ap w) (hB : Below w.heap.size w w') : Ap1 w0 c hb ab V hd ap w' := h.mod (F := none') (Mod.of_below hB) (fun _ _ => id) (fun _ _ => id)
theorem Ap1.ablt (h : Ap1 w0 c hb ab V hd ap w) : ab < w.heap.size := by
  obtain ⟨⟨U, S, T, hH, hT, hA, -⟩, -⟩ := h
  exact hA.lt
theorem Ap1.more (h : Ap1 w0 c hb ab V hd ap w) {c' : Nat} (hc : c ≤ c') : Ap1 w0 c' hb ab V hd ap w := by
  obtain ⟨⟨U, S, T, hH, hT, h1⟩, h2, h3, h4, h5⟩ := h
  exact ⟨⟨U, S, T, hH, by omega, h1⟩, h2, h3, h4, h5⟩
theorem ap1_ask (h : Ap1 w0 c hb ab V hd ap w) : Calls Tryz.prog 34 #[.pointer (some ⟨ab, 0, none⟩)] w (ApAskPost w ap.ask) := by
  obtain ⟨⟨U, S, T, hH, hT, hA, -⟩, hk, -⟩ := h
  exact apAsk_any hA hk
theorem ap1_over (h : Ap1 w0 c hb ab V hd ap w) : Calls Tryz.prog 38 #[.pointer (some ⟨ab, 0, none⟩)] w fun e w' => e = .returned (OverV ap) ∧ Mod none' w w' := by
  obtain ⟨⟨U, S, T, hH, hT, hA, -⟩, hk, -⟩ := h
  exact apOver_any hA
theorem Ap1.hand {U S : Nat → Prop} {T : Nat} {w' : World} {hd' : HdS} (hk : ap.ok) (hl : ∀ k, V k → k < w.heap.size) (ho : ∀ k, V k → w0.heap.size ≤ k) (hB : Below w0.heap.size w0 w) (hA : ApAt w ab S ap) (hs : ∀ k, S k → k < w.heap.size) (hu : ∀ k, U k → ¬ S k) (hv : ∀ k, U k ∨ S k → V k)
    (hH : HandAt w' hb (grow U w w') T hd') (hT : T ≤ 16 * (c + 1)) (hM : Mod U w w') : Ap1 w0 c hb ab (grow V w w') hd' ap w' := by
  have hz := hM.size
  refine ⟨⟨grow U w w', S, T, hH, hT, hA.mod hM (fun k hk _ hu' => hu k hu' hk), fun k hk => Nat.lt_of_lt_of_le (hs k hk) hz, fun k hk hS => ?_, fun k hk => ?_⟩, hk, fun k hk => ?_, fun k hk => ?_, hB.trans (hM.below_at hB.size (fun k hk e => by have := ho k (hv k (Or.inl e)); omega))⟩
  · rcases hk with hk | hk
    · exact hu k hk hS
    · have := hs k hS; omega
  · rcases hk with (hk | hk) | hk
    · exact Or.inl (hv k (Or.inl hk))
    · exact Or.inr hk
    · exact Or.inl (hv k (Or.inr hk))
  · rcases hk with hk | hk
    · have := hl k hk; omega
    · exact hk.2
  · rcases hk with hk | hk
    · exact ho k hk
    · have := hB.size; omega
theorem ap1_hand (h : Ap1 w0 c hb ab V hd ap w) (hc : c < 1000000) (q : QS) (hq : q.p = Esch.p0) (hds : q.data.size ≤ 9223372036854775807) (f : Int) :
    Calls Tryz.prog 26 #[.pointer (some ⟨hb, 0, none⟩), qV q none 0, .int .i64 f] w (Ap1HPost w0 (c + 1) hb ab V w ap (hd.ask q f)) := by
  obtain ⟨⟨U, S, T, hH, hT, hA, hs, hu, hv⟩, hk, hl, ho, hB⟩ := h
  refine (handAsk_any q none 0 f hH (by omega) hds (by rw [hq]; exact small_nil) none' (by rw [hq]; exact ListsAt.nil _ _ _) (fun _ h => h.elim)).mono ?_
  rintro e w' ⟨a, c', rfl, hl', hH', hM⟩
  exact ⟨a, c', rfl, hl', Ap1.hand hk hl ho hB hA hs hu hv hH' (by omega) hM, hM.mono (fun k _ hk => hv k (Or.inl hk))⟩
theorem ap1_hear (h : Ap1 w0 c hb ab V hd ap w) (x : AnS) (a : Option Addr) (cc : Nat) (b : Bool) (S' : Nat → Prop) (hl0 : ListsAt S' w a x.p.chains) (hS : ∀ k, S' k → k ≠ ab) :
    Calls Tryz.prog 35 #[.pointer (some ⟨ab, 0, none⟩), aV x a cc, .bool b] w (Ap1Post w0 c hb ab V w hd (ap.hear x b)) := by
  obtain ⟨⟨U, S, T, hH, hT, hA, hs, hu, hv⟩, hk, hl, ho, hB⟩ := h
  refine (apHear_any x a cc hA hk b S' hl0 hS).mono ?_
  rintro e w' ⟨rfl, hA', hM⟩
  have hz := hM.size
  have hba := hv ab (Or.inr hA.sb)
  refine ⟨rfl, ⟨⟨U, _, T, hH.mod hM (fun k hk e => hu k hk (by subst e; exact hA.sb)), hT, hA', fun k hk => ?_, fun k hk hS => ?_, fun k hk => ?_⟩, ApS.hear_ok hk x b, fun k hk => ?_, fun k hk => ?_, hB.trans (hM.below_at hB.size (fun k hk e => by have := ho ab hba; omega))⟩, hM.mono (fun k _ e => by subst e; exact hba)⟩
  · rcases hk with hk | hk
    · exact Nat.lt_of_lt_of_le (hs k hk) hz
    · exact hk.2
  · rcases hS with hS | hS
    · exact hu k hk hS
    · have := hl k (hv k (Or.inl hk)); omega
  · rcases hk with hk | hk | hk
    · exact Or.inl (hv k (Or.inl hk))
    · exact Or.inl (hv k (Or.inr hk))
    · exact Or.inr hk
  · rcases hk with hk | hk
    · have := hl k hk; omega
    · exact hk.2
  · rcases hk with hk | hk
    · exact ho k hk
    · have := hB.size; omega
end
/-- a hand that is there, and an append that is new -/
theorem ap1_new {w0 w : World} {c hb T : Nat} {U : Nat → Prop} {hd : HdS} (hH : HandAt w hb U T hd) (hT : T ≤ 16 * (c + 1)) (ho : ∀ k, U k → w0.heap.size ≤ k) (hB0 : Below w0.heap.size w0 w) (S : Nat → Prop) (q : Proj) (rec : ByteArray) (a : Option Addr) (cc : Nat) (hs : Small q.chains) (hl : ListsAt S w a q.chains) :
    Calls Tryz.prog 33 #[.agg #[.int .i64 q.epoch, .slice a q.chains.length cc], .string rec] w fun e w' => ∃ ab, e = .returned (.pointer (some ⟨ab, 0, none⟩)) ∧ Ap1 w0 c hb ab (grow U w w') hd (ap0 q rec) w' ∧ Below w.heap.size w w' := by
  refine (apNew_any S w q rec a cc hs hl).mono ?_
  rintro e w' ⟨ab, rfl, hA, hB⟩
  have hz := hB.size
  have hz0 := hB0.size
  refine ⟨ab, rfl, ⟨⟨U, fun k => w.heap.size ≤ k ∧ k < w'.heap.size, T, hH.below hB, hT, hA.sub (fun k hk h => ⟨h, hk⟩), fun k hk => hk.2, fun k hk h => ?_, fun k hk => hk⟩, ap0_ok q rec, fun k hk => ?_, fun k hk => ?_, hB0.trans (hB.mono hz0)⟩, hB⟩
  · have := hH.lt k hk; omega
  · rcases hk with hk | hk
    · have := hH.lt k hk; omega
    · exact hk.2
  · rcases hk with hk | hk
    · exact ho k hk
    · omega
/-- one round: a question, and its answer -/
def apTurn (s : HdS × ApS) (f : Int) : HdS × ApS := ((s.1.ask s.2.ask.1 f).2, s.2.hear (s.1.ask s.2.ask.1 f).1.1 (s.1.ask s.2.ask.1 f).1.2)
theorem ApS.ask_p (s : ApS) : s.ask.1.p = Esch.p0 := by
  unfold ApS.ask
  repeat' split
  all_goals rfl
theorem ApS.ask_data {s : ApS} (h : s.txt.size ≤ 9223372036854775807) : s.ask.1.data.size ≤ 9223372036854775807 := by
  unfold ApS.ask
  repeat' split
  all_goals first | exact h | exact (by decide : (ByteArray.mk #[]).size ≤ 9223372036854775807)
theorem ApS.hear_txt (s : ApS) (x : AnS) (b : Bool) : (s.hear x b).txt = s.txt := by
  unfold ApS.hear ApS.full ApS.next ApS.token ApS.over
  simp only [apply_ite ApS.txt, ite_self]
end Go.Proofs.YtghdhhbpbmhooaaGreat
/- what the laws of the append wake them by -/
namespace Go.Proofs.YtghdhhbpbmhooaaGreat
open Go.RowKit Esch

end Go.Proofs.YtghdhhbpbmhooaaGreat
