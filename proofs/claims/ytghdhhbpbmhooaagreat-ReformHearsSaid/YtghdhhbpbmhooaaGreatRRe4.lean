/- the document's change of the projection: what it hears -/
import Derived.Test.YtghdhhbpbmhooaaGreatRRe3
import Derived.Test.YtghdhhbpbmhooaaGreatPkRe
namespace Go.Proofs.YtghdhhbpbmhooaaGreat
open Go.RowKit Esch

theorem RReAt.post0 {w w' : World} {b : Nat} {S : Nat → Prop} {s : ReS} (h : RReAt w b S s) (hB : Below w.heap.size w w') {e : Ending} (he : e = .returned (.tuple #[])) : RRePost w b S s e w' := ⟨he, (h.below hB).sub (fun _ _ hk => Or.inl hk), Mod.of_below hB⟩
theorem RReAt.post1 {w w0 w' : World} {b : Nat} {S : Nat → Prop} {s : ReS} (hB : Below w.heap.size w w0) (h : RReAt w' b S s) (hM : Mod (· = b) w0 w') {e : Ending} (he : e = .returned (.tuple #[])) : RRePost w b S s e w' :=
  ⟨he, h.sub (fun _ _ hk => Or.inl hk), (Mod.of_below hB).trans hM⟩
/-- another projection has been taken -/
theorem RReAt.took {w w3 w' : World} {b n : Nat} {S : Nat → Prop} {s : ReS} {p : Proj} {ia : Option Addr} {ic : Nat} (hB : Below w.heap.size w w3) (h : RReAt w3 b S s) (hl : ListsAt (From n) w3 ia p.chains) (hb : b < n) (hn : w.heap.size ≤ n) (hsm : Small p.chains) (hM : Mod (· = b) w3 w')
    (c2 : w'.cell? ⟨b, 2, none⟩ = some (.int .i64 p.epoch)) (c3 : w'.cell? ⟨b, 3, none⟩ = some (.slice ia p.chains.length ic)) (c4 : w'.cell? ⟨b, 4, none⟩ = some (.int .i64 2)) (c5 : w'.cell? ⟨b, 5, none⟩ = w3.cell? ⟨b, 5, none⟩) (hi : s.i = 0) (c0 : w'.cell? ⟨b, 0, none⟩ = w3.cell? ⟨b, 0, none⟩) (c1 : w'.cell? ⟨b, 1, none⟩ = w3.cell? ⟨b, 1, none⟩) (c6 : w'.cell? ⟨b, 6, none⟩ = w3.cell? ⟨b, 6, none⟩) (c7 : w'.cell? ⟨b, 7, none⟩ = w3.cell? ⟨b, 7, none⟩)
    (fr : ∀ o, w'.frozen? ⟨b, o, none⟩ = w3.frozen? ⟨b, o, none⟩) : RRePost w b S { s with p := p, «at» := 1, i := 0 } (.returned (.tuple #[])) w' := by
  obtain ⟨g1a, g1c, g1, g1l⟩ := h.c1
  obtain ⟨g6a, g6c, g6, g6l⟩ := h.c6
  refine ⟨rfl, ⟨c0.trans h.c0, ⟨g1a, g1c, c1.trans g1, (g1l.mod hM (fun k hk _ => hk.2)).sub (fun k hk h => ⟨Or.inl h.1, h.2⟩)⟩, c2, ⟨ia, ic, c3, ?_⟩, c4, (c5.trans h.c5).trans (by rw [hi]), ⟨g6a, g6c, c6.trans g6, (g6l.mod hM (fun k hk _ => hk.2)).sub (fun k hk h => ⟨Or.inl h.1, h.2⟩)⟩, c7.trans h.c7, fun o ho => (fr o).trans (h.fr o ho), Or.inl h.sb, h.smq, hsm⟩, (Mod.of_below hB).trans hM⟩
  refine (hl.mod hM (fun k hk _ e => ?_)).sub (fun k hkl hk => ?_)
  · have hk : n ≤ k := hk; omega
  · have hk : n ≤ k := hk
    exact ⟨Or.inr ⟨by omega, hkl⟩, by omega⟩
/-- the row of what the units told has been written -/
theorem RReAt.put {w w8 : World} {b : Nat} {S : Nat → Prop} {s : ReS} {a : Option Addr} {cap n : Nat} {t : List (Int × Int)} (h : RReAt w b S s) (hB : Below w.heap.size w w8) (hg : GRowAt w8 (From w.heap.size) 2 n cap a (cntCells t)) (hn : n = t.length) :
    RReAt (w8.setCell ⟨b, 6, none⟩ (.slice a n cap)) b (fun k => S k ∨ (w.heap.size ≤ k ∧ k < w8.heap.size)) { s with t := t } ∧ Mod (· = b) w (w8.setCell ⟨b, 6, none⟩ (.slice a n cap)) := by
  subst hn
  have h8 := h.below hB
  have hl := h.lt
  have hM : Mod (· = b) w8 (w8.setCell ⟨b, 6, none⟩ (.slice a t.length cap)) := (Mod.refl (· = b) w8).setCellAt (fun _ => rfl) _
  have c0 := h8.c0
  obtain ⟨qa, qc, c1, hq⟩ := h8.c1
  have c2 := h8.c2
  obtain ⟨pa, pc, c3, hp⟩ := h8.c3
  have c4 := h8.c4
  have c5 := h8.c5
  obtain ⟨ta, tc, c6, -⟩ := h8.c6
  have c7 := h8.c7
  refine ⟨⟨by go_simp, ⟨qa, qc, by go_simp, (hq.mod hM (fun k hk _ => hk.2)).sub (fun k _ h => ⟨Or.inl h.1, h.2⟩)⟩, by go_simp, ⟨pa, pc, by go_simp, (hp.mod hM (fun k hk _ => hk.2)).sub (fun k _ h => ⟨Or.inl h.1, h.2⟩)⟩, by go_simp, by go_simp, ⟨a, cap, by go_simp, ?_⟩, by go_simp, fun o ho => ?_, Or.inl h.sb, h.smq, h.smp⟩, (Mod.of_below hB).trans hM⟩
  · refine (hg.mod hM (fun k hk hkl e => ?_)).sub (fun k hkl hk => ?_)
    · have hk : w.heap.size ≤ k := hk; omega
    · have hk : w.heap.size ≤ k := hk
      exact ⟨Or.inr ⟨hk, by simpa using hkl⟩, by omega⟩
  · have := h8.fr o ho
    go_simp
theorem src_cnt {P : Program} {W : World} (tx e' : TypeId) (hk : P.underlying tx = some (.slice e')) (b : Nat) (p : Int × Int) (t : TypeId) (hb : W.heap[b]? = some (.cells (cntC p).toArray t)) (c : Nat) : Src P 2 tx (.slice (some ⟨b, 0, none⟩) 1 c) 1 (cntC p) W := by
  refine Src.ofSlice W hk _ 1 c (cntC p) rfl (fun j u hu => ?_) (fun u hu => ?_)
  · rw [addr_add, Nat.zero_add]
    simp [World.cell?, hb, hu]
  · have := cntCells_one [p] u
    simp only [cntCells, List.flatMap_cons, List.flatMap_nil, List.append_nil] at this
    exact this hu
theorem set_new {t : List (Int × Int)} {u v : Int} (h : u ∉ t.map Prod.fst) : Esch.set t u v = t ++ [(u, v)] := by
  induction t with
  | nil => rfl
  | cons x t ih =>
    obtain ⟨k, v'⟩ := x
    simp only [List.map_cons, List.mem_cons, not_or] at h
    show (if k = u then _ else _) = _
    rw [if_neg (fun e => h.1 e.symm), ih h.2]
    rfl
section
variable {w : World} {b : Nat} {S : Nat → Prop} {s : ReS} (x : AnS) (a : Option Addr) (c : Nat) (hd : Bool)
set_option maxHeartbeats 1000000 in
theorem rreHear_no (h : RReAt w b S s) (hn : s.at = 4 ∨ hd = false ∨ x.code = 45) : Calls Tryz.prog 22 #[.pointer (some ⟨b, 0, none⟩), aV x a c, .bool hd] w (RRePost w b S s) := by
  have H := Lib.hid h
  have c4 := h.c4
  have hl := h.lt
  clear h
  by_cases h2 : s.at = 4
  · rw [h2] at c4
    clear hn h2
    simp only [aV]
    go_enter Tryz.func22, Tryz.ntmps22
    go_wp2_with fail
    go_end0
    exact H.out.post0 (by exact belC (Below.refl _ _)) rfl
  · have e2 : (s.at + 1 == 5) = false := by simp only [beq_eq_false_iff_ne, ne_eq]; omega
    cases hd
    · clear hn h2
      simp only [aV]
      go_enter Tryz.func22, Tryz.ntmps22
      go_wp2_with fail
      go_end0
      exact H.out.post0 (by exact belC (Below.refl _ _)) rfl
    · have hn : x.code = 45 := by
        rcases hn with hn | hn | hn
        · exact absurd hn h2
        · cases hn
        · exact hn
      obtain ⟨xc, xn, xd, xp, xm, xs, xe⟩ := x
      simp only at hn
      subst hn
      clear h2
      simp only [aV]
      go_enter Tryz.func22, Tryz.ntmps22
      go_wp2_with fail
      go_end0
      exact H.out.post0 (by exact belC (Below.refl _ _)) rfl
set_option maxHeartbeats 1000000 in
theorem rreHear_layE (h : RReAt w b S s) (h1 : s.at = 0) (hc : x.code ≠ 45) (h0 : x.code ≠ 0) : Calls Tryz.prog 22 #[.pointer (some ⟨b, 0, none⟩), aV x a c, .bool true] w (RRePost w b S (s.endd x.code)) := by
  have e5 : (x.code == 45) = false := by simpa using hc
  have ez : (x.code != 0) = true := by simpa using h0
  clear h0
  obtain ⟨xc, xn, xd, ⟨xpe, xls⟩, xm, xs, xe⟩ := x
  obtain ⟨W0, hW0, hB0, hz0, b0, b1, b2, b3, b4, b5, b6, b7⟩ := an_boxA w (.int .i64 xc) (.int .i64 xn) (.string xd) (.int .i64 xpe) (.slice a xls.length c) (.int .i64 xm) (.int .i64 xs) (.int .i64 xe)
  have lt0 : w.heap.size < W0.heap.size := by omega
  have ltb : b < W0.heap.size := by have := h.lt; omega
  have h0 := h.below hB0
  have HW0 := Lib.hid hW0
  have HB0 := Lib.hid hB0
  clear hW0
  have c4 := h.c4
  have hl := h.lt
  have k0 := h0.c0
  obtain ⟨qa, qc, k1, hq⟩ := h0.c1
  have k2 := h0.c2
  obtain ⟨pa, pc, k3, hp⟩ := h0.c3
  have k4 := h0.c4
  have k5 := h0.c5
  obtain ⟨ta, tc, k6, htt⟩ := h0.c6
  have k7 := h0.c7
  have H0 := Lib.hid h0
  simp only at e5 ez hc
  have hen := rreEnd_any h0 xc
  rw [h1] at c4 k4
  clear h h1 hc h0 hB0 hq hp htt
  simp only [aV]
  go_enter Tryz.func22, Tryz.ntmps22
  go_wp2_with fail
  rw [← HW0.out]
  refine hen.mono ?_
  clear hen
  rintro e w9 ⟨rfl, hA9, hM9⟩
  have HA9 := Lib.hid hA9
  have HM9 := Lib.hid hM9
  clear hA9 hM9
  go_wp2_with fail
  go_end0
  skip
  exact RReAt.post1 HB0.out HA9.out HM9.out rfl
set_option maxHeartbeats 1000000 in
theorem rreHear_sealE (h : RReAt w b S s) (h1 : s.at = 1) (hc : x.code ≠ 45) (h0 : x.code ≠ 0) : Calls Tryz.prog 22 #[.pointer (some ⟨b, 0, none⟩), aV x a c, .bool true] w (RRePost w b S (s.endd x.code)) := by
  have e5 : (x.code == 45) = false := by simpa using hc
  have ez : (x.code != 0) = true := by simpa using h0
  clear h0
  obtain ⟨xc, xn, xd, ⟨xpe, xls⟩, xm, xs, xe⟩ := x
  obtain ⟨W0, hW0, hB0, hz0, b0, b1, b2, b3, b4, b5, b6, b7⟩ := an_boxA w (.int .i64 xc) (.int .i64 xn) (.string xd) (.int .i64 xpe) (.slice a xls.length c) (.int .i64 xm) (.int .i64 xs) (.int .i64 xe)
  have lt0 : w.heap.size < W0.heap.size := by omega
  have ltb : b < W0.heap.size := by have := h.lt; omega
  have h0 := h.below hB0
  have HW0 := Lib.hid hW0
  have HB0 := Lib.hid hB0
  clear hW0
  have c4 := h.c4
  have hl := h.lt
  have k0 := h0.c0
  obtain ⟨qa, qc, k1, hq⟩ := h0.c1
  have k2 := h0.c2
  obtain ⟨pa, pc, k3, hp⟩ := h0.c3
  have k4 := h0.c4
  have k5 := h0.c5
  obtain ⟨ta, tc, k6, htt⟩ := h0.c6
  have k7 := h0.c7
  have H0 := Lib.hid h0
  simp only at e5 ez hc
  have hen := rreEnd_any h0 xc
  rw [h1] at c4 k4
  clear h h1 hc h0 hB0 hq hp htt
  simp only [aV]
  go_enter Tryz.func22, Tryz.ntmps22
  go_wp2_with fail
  rw [← HW0.out]
  refine hen.mono ?_
  clear hen
  rintro e w9 ⟨rfl, hA9, hM9⟩
  have HA9 := Lib.hid hA9
  have HM9 := Lib.hid hM9
  clear hA9 hM9
  go_wp2_with fail
  go_end0
  skip
  exact RReAt.post1 HB0.out HA9.out HM9.out rfl
set_option maxHeartbeats 1000000 in
theorem rreHear_chg0 (h : RReAt w b S s) (h1 : s.at = 2) (h0 : x.code = 0) : Calls Tryz.prog 22 #[.pointer (some ⟨b, 0, none⟩), aV x a c, .bool true] w (RRePost w b S { s with «at» := 3 }) := by
  have hx := h0
  clear h0
  obtain ⟨xc, xn, xd, ⟨xpe, xls⟩, xm, xs, xe⟩ := x
  obtain ⟨W0, hW0, hB0, hz0, b0, b1, b2, b3, b4, b5, b6, b7⟩ := an_boxA w (.int .i64 xc) (.int .i64 xn) (.string xd) (.int .i64 xpe) (.slice a xls.length c) (.int .i64 xm) (.int .i64 xs) (.int .i64 xe)
  have lt0 : w.heap.size < W0.heap.size := by omega
  have ltb : b < W0.heap.size := by have := h.lt; omega
  have h0 := h.below hB0
  have HW0 := Lib.hid hW0
  have HB0 := Lib.hid hB0
  clear hW0
  have c4 := h.c4
  have hl := h.lt
  have k0 := h0.c0
  obtain ⟨qa, qc, k1, hq⟩ := h0.c1
  have k2 := h0.c2
  obtain ⟨pa, pc, k3, hp⟩ := h0.c3
  have k4 := h0.c4
  have k5 := h0.c5
  obtain ⟨ta, tc, k6, htt⟩ := h0.c6
  have k7 := h0.c7
  have H0 := Lib.hid h0
  simp only at hx
  subst hx
  have f4 := h0.fr 4 (by omega)
  rw [h1] at c4 k4
  clear h h1 h0 hB0 hq hp htt
  simp only [aV]
  go_enter Tryz.func22, Tryz.ntmps22
  go_wp2_with fail
  rw [← HW0.out]
  go_quiet (fail)
  go_wp2_with fail
  go_end0
  refine RReAt.post1 HB0.out (H0.out.wrote (v4 := 3) (v5 := s.i) (v7 := s.err) (by exact modC (Mod.refl _ _)) (by go_simp) (by go_simp) (by go_simp) (by go_simp) (by go_simp) (by go_simp) (by go_simp) (by go_simp) (fun o => by go_simp)) (by exact modC (Mod.refl _ _)) rfl
set_option maxHeartbeats 1000000 in
theorem rreHear_chgE (h : RReAt w b S s) (h1 : s.at = 2) (hc : x.code ≠ 45) (h0 : x.code ≠ 0) (h8 : x.code ≠ 48) : Calls Tryz.prog 22 #[.pointer (some ⟨b, 0, none⟩), aV x a c, .bool true] w (RRePost w b S (s.endd x.code)) := by
  have e5 : (x.code == 45) = false := by simpa using hc
  have ez : (x.code == 0) = false := by simpa using h0
  have e8 : (x.code == 48) = false := by simpa using h8
  clear h0
  obtain ⟨xc, xn, xd, ⟨xpe, xls⟩, xm, xs, xe⟩ := x
  obtain ⟨W0, hW0, hB0, hz0, b0, b1, b2, b3, b4, b5, b6, b7⟩ := an_boxA w (.int .i64 xc) (.int .i64 xn) (.string xd) (.int .i64 xpe) (.slice a xls.length c) (.int .i64 xm) (.int .i64 xs) (.int .i64 xe)
  have lt0 : w.heap.size < W0.heap.size := by omega
  have ltb : b < W0.heap.size := by have := h.lt; omega
  have h0 := h.below hB0
  have HW0 := Lib.hid hW0
  have HB0 := Lib.hid hB0
  clear hW0
  have c4 := h.c4
  have hl := h.lt
  have k0 := h0.c0
  obtain ⟨qa, qc, k1, hq⟩ := h0.c1
  have k2 := h0.c2
  obtain ⟨pa, pc, k3, hp⟩ := h0.c3
  have k4 := h0.c4
  have k5 := h0.c5
  obtain ⟨ta, tc, k6, htt⟩ := h0.c6
  have k7 := h0.c7
  have H0 := Lib.hid h0
  simp only at e5 ez hc e8 h8
  have hen := fun n => rreEnd_any (h0.mod (F := none') ((Mod.refl _ _).drewN n) (fun _ _ _ => id)) xc
  rw [h1] at c4 k4
  clear h h1 hc h0 hB0 hq hp h8 htt
  simp only [aV]
  go_enter Tryz.func22, Tryz.ntmps22
  go_wp2_with fail
  rw [← HW0.out]
  go_quiet (fail)
  go_wp2_with fail
  replace hen := hen nq
  refine hen.mono ?_
  clear hen
  rintro e w9 ⟨rfl, hA9, hM9⟩
  have HA9 := Lib.hid hA9
  have HM9 := Lib.hid hM9
  clear hA9 hM9
  go_wp2_with fail
  go_end0
  skip
  exact RReAt.post1 (below_drewN HB0.out nq) HA9.out HM9.out rfl
set_option maxHeartbeats 1000000 in
theorem rreHear_start (h : RReAt w b S s) (h1 : s.at = 3) (hc : x.code ≠ 45) : Calls Tryz.prog 22 #[.pointer (some ⟨b, 0, none⟩), aV x a c, .bool true] w (RRePost w b S (if x.code = 40 ∧ x.epoch = s.q.epoch then s.endd 0 else s.endd x.code)) := by
  have e5 : (x.code == 45) = false := by simpa using hc
  obtain ⟨xc, xn, xd, ⟨xpe, xls⟩, xm, xs, xe⟩ := x
  obtain ⟨W0, hW0, hB0, hz0, b0, b1, b2, b3, b4, b5, b6, b7⟩ := an_boxA w (.int .i64 xc) (.int .i64 xn) (.string xd) (.int .i64 xpe) (.slice a xls.length c) (.int .i64 xm) (.int .i64 xs) (.int .i64 xe)
  have lt0 : w.heap.size < W0.heap.size := by omega
  have ltb : b < W0.heap.size := by have := h.lt; omega
  have h0 := h.below hB0
  have HW0 := Lib.hid hW0
  have HB0 := Lib.hid hB0
  clear hW0
  have c4 := h.c4
  have hl := h.lt
  have k0 := h0.c0
  obtain ⟨qa, qc, k1, hq⟩ := h0.c1
  have k2 := h0.c2
  obtain ⟨pa, pc, k3, hp⟩ := h0.c3
  have k4 := h0.c4
  have k5 := h0.c5
  obtain ⟨ta, tc, k6, htt⟩ := h0.c6
  have k7 := h0.c7
  have H0 := Lib.hid h0
  simp only at e5 hc ⊢
  have hen := fun n e => rreEnd_any (h0.mod (F := none') ((Mod.refl _ _).drewN n) (fun _ _ _ => id)) e
  rw [h1] at c4 k4
  clear h h1 h0 hB0 hq hp htt
  by_cases h4 : xc = 40
  · subst h4
    by_cases hee : xe = s.q.epoch
    · rw [if_pos ⟨rfl, hee⟩]
      have ee : (xe == s.q.epoch) = true := by simpa using hee
      clear hee
      simp only [aV]
      go_enter Tryz.func22, Tryz.ntmps22
      go_wp2_with fail
      rw [← HW0.out]
      go_quiet (fail)
      go_wp2_with fail
      replace hen := hen nq 0
      refine hen.mono ?_
      clear hen
      rintro e w9 ⟨rfl, hA9, hM9⟩
      have HA9 := Lib.hid hA9
      have HM9 := Lib.hid hM9
      clear hA9 hM9
      go_wp2_with fail
      go_end0
      skip
      exact RReAt.post1 (below_drewN HB0.out nq) HA9.out HM9.out rfl
    · rw [if_neg (fun e => hee e.2)]
      have ee : (xe == s.q.epoch) = false := by simpa using hee
      clear hee
      simp only [aV]
      go_enter Tryz.func22, Tryz.ntmps22
      go_wp2_with fail
      rw [← HW0.out]
      go_quiet (fail)
      go_wp2_with fail
      replace hen := hen nq 40
      refine hen.mono ?_
      clear hen
      rintro e w9 ⟨rfl, hA9, hM9⟩
      have HA9 := Lib.hid hA9
      have HM9 := Lib.hid hM9
      clear hA9 hM9
      go_wp2_with fail
      go_end0
      skip
      exact RReAt.post1 (below_drewN HB0.out nq) HA9.out HM9.out rfl
  · rw [if_neg (fun e => h4 e.1)]
    have e4 : (xc == 40) = false := by simpa using h4
    clear h4
    by_cases h00 : xc = 0
    · subst h00
      simp only [aV]
      go_enter Tryz.func22, Tryz.ntmps22
      go_wp2_with fail
      rw [← HW0.out]
      go_quiet (fail)
      go_wp2_with fail
      replace hen := hen nq 0
      refine hen.mono ?_
      clear hen
      rintro e w9 ⟨rfl, hA9, hM9⟩
      have HA9 := Lib.hid hA9
      have HM9 := Lib.hid hM9
      clear hA9 hM9
      go_wp2_with fail
      go_end0
      skip
      exact RReAt.post1 (below_drewN HB0.out nq) HA9.out HM9.out rfl
    · have e00 : (xc == 0) = false := by simpa using h00
      clear h00
      simp only [aV]
      go_enter Tryz.func22, Tryz.ntmps22
      go_wp2_with fail
      rw [← HW0.out]
      go_quiet (fail)
      go_wp2_with fail
      replace hen := hen nq xc
      refine hen.mono ?_
      clear hen
      rintro e w9 ⟨rfl, hA9, hM9⟩
      have HA9 := Lib.hid hA9
      have HM9 := Lib.hid hM9
      clear hA9 hM9
      go_wp2_with fail
      go_end0
      skip
      exact RReAt.post1 (below_drewN HB0.out nq) HA9.out HM9.out rfl
set_option maxRecDepth 100000 in
set_option maxHeartbeats 1000000 in
theorem rreHear_chg8 (h : RReAt w b S s) (h1 : s.at = 2) (h8 : x.code = 48) (S' : Nat → Prop) (hl0 : ListsAt S' w a x.p.chains) : Calls Tryz.prog 22 #[.pointer (some ⟨b, 0, none⟩), aV x a c, .bool true] w (RRePost w b S (if x.p = s.q then { s with «at» := 3 } else s.endd 48)) := by
  obtain ⟨xc, xn, xd, ⟨xpe, xls⟩, xm, xs, xe⟩ := x
  obtain ⟨W0, hW0, hB0, hz0, b0, b1, b2, b3, b4, b5, b6, b7⟩ := an_boxA w (.int .i64 xc) (.int .i64 xn) (.string xd) (.int .i64 xpe) (.slice a xls.length c) (.int .i64 xm) (.int .i64 xs) (.int .i64 xe)
  have lt0 : w.heap.size < W0.heap.size := by omega
  have ltb : b < W0.heap.size := by have := h.lt; omega
  have h0 := h.below hB0
  have HW0 := Lib.hid hW0
  have HB0 := Lib.hid hB0
  clear hW0
  have c4 := h.c4
  have hl := h.lt
  have k0 := h0.c0
  obtain ⟨qa, qc, k1, hq⟩ := h0.c1
  have k2 := h0.c2
  obtain ⟨pa, pc, k3, hp⟩ := h0.c3
  have k4 := h0.c4
  have k5 := h0.c5
  obtain ⟨ta, tc, k6, htt⟩ := h0.c6
  have k7 := h0.c7
  have H0 := Lib.hid h0
  simp only at h8 hl0 ⊢
  subst h8
  have f4 := h0.fr 4 (by omega)
  have hsm := projection_any (fun _ => True) W0.drew xpe s.q.epoch a qa c qc xls s.q.chains ((hl0.mod (F := none') ((Mod.of_below hB0).drew) (fun _ _ _ => id)).sub (fun _ _ _ => trivial)) ((hq.mod (F := none') ((Mod.refl _ _).drew) (fun _ _ _ => id)).sub (fun _ _ _ => trivial))
  have hd0 : W0.drew.cell? ⟨b, 0, none⟩ = some (.int .i64 s.q.epoch) := k0
  have hd1 : W0.drew.cell? ⟨b, 1, none⟩ = some (.slice qa s.q.chains.length qc) := k1
  have hd3 : W0.drew.cell? ⟨w.heap.size, 3, none⟩ = some (.int .i64 xpe) := b3
  have hd4 : W0.drew.cell? ⟨w.heap.size, 4, none⟩ = some (.slice a xls.length c) := b4
  have hdc : W0.drew.cell? ⟨w.heap.size, 0, none⟩ = some (.int .i64 48) := b0
  rw [h1] at c4 k4
  obtain ⟨s', hs'⟩ : ∃ s', s' = (if (⟨xpe, xls⟩ : Proj) = s.q then { s with «at» := 3 } else s.endd 48) := ⟨_, rfl⟩
  rw [← hs']
  have Hs' := Lib.hid hs'
  obtain ⟨g, hg⟩ : ∃ g, g = decide (xpe = s.q.epoch ∧ xls = s.q.chains) := ⟨_, rfl⟩
  rw [← hg] at hsm
  have Hg : Hid (g = decide ((⟨xpe, xls⟩ : Proj) = s.q)) := Lib.hid (by
    rw [hg]
    refine decide_eq_decide.2 ⟨fun e => ?_, fun e => ?_⟩
    · obtain ⟨e1, e2⟩ := e
      rw [e1, e2]
    · rw [← e]; exact ⟨rfl, rfl⟩)
  have H1 := Lib.hid h1
  clear h h1 h0 hB0 hq hp hl0 hs' hg htt
  simp only [aV]
  go_enter Tryz.func22, Tryz.ntmps22
  go_wp2_with fail
  rw [← HW0.out]
  go_region_held3 (fun w' => w'.cell? ⟨b, 0, none⟩ = some (.int .i64 s.q.epoch) ∧ w'.cell? ⟨b, 1, none⟩ = some (.slice qa s.q.chains.length qc) ∧ w'.cell? ⟨w.heap.size, 3, none⟩ = some (.int .i64 xpe) ∧ w'.cell? ⟨w.heap.size, 4, none⟩ = some (.slice a xls.length c) ∧ w'.cell? ⟨w.heap.size, 0, none⟩ = some (.int .i64 48))
    (first
      | with_reducible exact ⟨hd0, hd1, hd3, hd4, hdc⟩
      | with_reducible exact ⟨z0, z1, z3, z4, zc⟩)
    (first
      | (go_at_call 31; (with_reducible refine hsm.mono ?_); rintro e w2 ⟨rfl, hB2'⟩
         have hB2 : Below W0.heap.size W0 w2 := below_drew hB2'
         have z0 := below_at hB2 hd0 ltb
         have z1 := below_at hB2 hd1 ltb
         have z3 := below_at hB2 hd3 lt0
         have z4 := below_at hB2 hd4 lt0
         have zc := below_at hB2 hdc lt0))
  have h2 := H0.out.below hB2
  have HB2 := Lib.hid (HB0.out.trans (hB2.mono (by omega)))
  have H2 := Lib.hid h2
  have bz0 := zc
  clear hsm hB2 hB2' hd0 hd1 hd3 hd4 hdc z0 z1 z3 z4 zc
  cases g
  · have hen := rreEnd_any h2 48
    clear h2
    go_wp2_with fail
    refine hen.mono ?_
    clear hen
    rintro e w9 ⟨rfl, hA9, hM9⟩
    have HA9 := Lib.hid hA9
    have HM9 := Lib.hid hM9
    clear hA9 hM9
    go_wp2_with fail
    go_end0
    rw [Hs'.out, if_neg (of_decide_eq_false Hg.out.symm)]
    exact RReAt.post1 HB2.out HA9.out HM9.out rfl
  · have g4 := h2.c4
    rw [show s.at = 2 from H1.out] at g4
    have gf4 := h2.fr 4 (by omega)
    have hl2 := h2.lt
    clear h2
    go_wp2_with fail
    go_end0
    rw [Hs'.out, if_pos (of_decide_eq_true Hg.out.symm)]
    refine RReAt.post1 HB2.out (H2.out.wrote (v4 := 3) (v5 := s.i) (v7 := s.err) (by exact modC (Mod.refl _ _)) (by go_simp) (by have := H2.out.c5; go_simp) (by have := H2.out.c7; go_simp) (by go_simp) (by go_simp) (by go_simp) (by go_simp) (by go_simp) (fun o => by go_simp)) (by exact modC (Mod.refl _ _)) rfl
set_option maxRecDepth 100000 in
set_option maxHeartbeats 1000000 in
theorem rreHear_lay (h : RReAt w b S s) (h1 : s.at = 0) (hi : s.i = 0) (h8 : x.code = 0) (S' : Nat → Prop) (hl0 : ListsAt S' w a x.p.chains) : Calls Tryz.prog 22 #[.pointer (some ⟨b, 0, none⟩), aV x a c, .bool true] w (RRePost w b S (if nextB x.p s.q = true then { s with p := x.p, «at» := 1, i := 0 } else s.endd 48)) := by
  obtain ⟨xc, xn, xd, ⟨xpe, xls⟩, xm, xs, xe⟩ := x
  obtain ⟨W0, hW0, hB0, hz0, b0, b1, b2, b3, b4, b5, b6, b7⟩ := an_boxA w (.int .i64 xc) (.int .i64 xn) (.string xd) (.int .i64 xpe) (.slice a xls.length c) (.int .i64 xm) (.int .i64 xs) (.int .i64 xe)
  have lt0 : w.heap.size < W0.heap.size := by omega
  have ltb : b < W0.heap.size := by have := h.lt; omega
  have h0 := h.below hB0
  have HW0 := Lib.hid hW0
  have HB0 := Lib.hid hB0
  clear hW0
  have c4 := h.c4
  have hl := h.lt
  have k0 := h0.c0
  obtain ⟨qa, qc, k1, hq⟩ := h0.c1
  have k2 := h0.c2
  obtain ⟨pa, pc, k3, hp⟩ := h0.c3
  have k4 := h0.c4
  have k5 := h0.c5
  obtain ⟨ta, tc, k6, htt⟩ := h0.c6
  have k7 := h0.c7
  have H0 := Lib.hid h0
  simp only at h8 hl0 ⊢
  subst h8
  have HLX := Lib.hid hl0
  have Hi := Lib.hid hi
  have hnx := rnext_any (fun _ => True) W0.drew xpe s.q.epoch a qa c qc xls s.q.chains ((hl0.mod (F := none') ((Mod.of_below hB0).drew) (fun _ _ _ => id)).sub (fun _ _ _ => trivial)) ((hq.mod (F := none') ((Mod.refl _ _).drew) (fun _ _ _ => id)).sub (fun _ _ _ => trivial))
  have hd0 : W0.drew.cell? ⟨b, 0, none⟩ = some (.int .i64 s.q.epoch) := k0
  have hd1 : W0.drew.cell? ⟨b, 1, none⟩ = some (.slice qa s.q.chains.length qc) := k1
  have hd3 : W0.drew.cell? ⟨w.heap.size, 3, none⟩ = some (.int .i64 xpe) := b3
  have hd4 : W0.drew.cell? ⟨w.heap.size, 4, none⟩ = some (.slice a xls.length c) := b4
  rw [h1] at c4 k4
  obtain ⟨s', hs'⟩ : ∃ s', s' = (if nextB ⟨xpe, xls⟩ s.q = true then { s with p := ⟨xpe, xls⟩, «at» := 1, i := 0 } else s.endd 48) := ⟨_, rfl⟩
  rw [← hs']
  have Hs' := Lib.hid hs'
  obtain ⟨g, hg⟩ : ∃ g, g = nextB ⟨xpe, xls⟩ s.q := ⟨_, rfl⟩
  rw [show nextB ⟨xpe, xls⟩ ⟨s.q.epoch, s.q.chains⟩ = g from hg.symm] at hnx
  have Hg := Lib.hid hg
  have H1 := Lib.hid h1
  clear h h1 h0 hB0 hq hp hl0 hs' hg htt hi
  simp only [aV]
  go_enter Tryz.func22, Tryz.ntmps22
  go_wp2_with fail
  rw [← HW0.out]
  go_region_held3 (fun w' => w'.cell? ⟨b, 0, none⟩ = some (.int .i64 s.q.epoch) ∧ w'.cell? ⟨b, 1, none⟩ = some (.slice qa s.q.chains.length qc) ∧ w'.cell? ⟨w.heap.size, 3, none⟩ = some (.int .i64 xpe) ∧ w'.cell? ⟨w.heap.size, 4, none⟩ = some (.slice a xls.length c))
    (first
      | with_reducible exact ⟨hd0, hd1, hd3, hd4⟩
      | with_reducible exact ⟨z0, z1, z3, z4⟩)
    (first
      | (go_at_call 23; (with_reducible refine hnx.mono ?_); rintro e w2 ⟨rfl, hB2'⟩
         have hB2 : Below W0.heap.size W0 w2 := below_drew hB2'
         have z0 := below_at hB2 hd0 ltb
         have z1 := below_at hB2 hd1 ltb
         have z3 := below_at hB2 hd3 lt0
         have z4 := below_at hB2 hd4 lt0))
  have h2 := H0.out.below hB2
  have HB2 := Lib.hid (HB0.out.trans (hB2.mono (by omega)))
  have H2 := Lib.hid h2
  have hz2 := hB2.size
  clear hnx hB2 hB2' hd0 hd1 hd3 hd4 z0 z1
  cases g
  · have hen := rreEnd_any h2 48
    clear h2
    go_wp2_with fail
    refine hen.mono ?_
    clear hen
    rintro e w9 ⟨rfl, hA9, hM9⟩
    have HA9 := Lib.hid hA9
    have HM9 := Lib.hid hM9
    clear hA9 hM9
    go_wp2_with fail
    go_end0
    rw [Hs'.out, if_neg (show ¬ nextB ⟨xpe, xls⟩ s.q = true from fun e => Bool.noConfusion (Hg.out.trans e))]
    exact RReAt.post1 HB2.out HA9.out HM9.out rfl
  · have hgd := (next_good Hg.out.symm).1
    have hsm := good_small (p := ⟨xpe, xls⟩) (of_decide_eq_true hgd)
    have hcp := copyK_any S' w2 xpe a c xls hsm (HLX.out.mod (F := none') (Mod.of_below HB2.out) (fun _ _ _ => id))
    have Hsm := Lib.hid hsm
    clear h2 hgd hsm
    go_wp2_with fail
    refine hcp.mono ?_
    clear hcp
    rintro e w3 ⟨ia, ic, rfl, hl3, hB3⟩
    have h3 := H2.out.below hB3
    have HB3 := Lib.hid (HB2.out.trans (hB3.mono (by omega)))
    have HL3 := Lib.hid hl3
    have H3 := Lib.hid h3
    have lb3 := h3.lt
    have g0 := h3.c0
    obtain ⟨g1a, g1c, g1, g1l⟩ := h3.c1
    have g2 := h3.c2
    obtain ⟨g3a, g3c, g3, -⟩ := h3.c3
    have g4 := h3.c4
    have g5 := h3.c5
    obtain ⟨g6a, g6c, g6, -⟩ := h3.c6
    have g7 := h3.c7
    have hb2 : b < w2.heap.size := H2.out.lt
    have gf2 := h3.fr 2 (by omega)
    have gf3 := h3.fr 3 (by omega)
    have gf4 := h3.fr 4 (by omega)
    have hzz := HB0.out.size
    clear h3 hl3 hB3 z3 z4 g1l
    go_wp2_with fail
    go_end0
    rw [Hs'.out, if_pos (Hg.out.symm)]
    exact RReAt.took (ic := ic) HB3.out (n := w2.heap.size) H3.out HL3.out hb2 (by omega) Hsm.out (by exact modC (Mod.refl _ _)) (by go_simp) (by go_simp) (by go_simp) (by go_simp) Hi.out (by go_simp) (by go_simp) (by go_simp) (by go_simp) (fun o => by go_simp)
set_option linter.unusedSimpArgs false in
set_option maxRecDepth 100000 in
set_option maxHeartbeats 2000000 in
theorem rreHear_seal (h : RReAt w b S s) (h1 : s.at = 1) (h8 : x.code = 0) (hi : 0 ≤ s.i ∧ s.i < s.us.length) (hg : goodB s.p = true) (hm : s.us.getD s.i.toNat 0 ∉ s.t.map Prod.fst) (htl : s.t.length ≤ 100) : Calls Tryz.prog 22 #[.pointer (some ⟨b, 0, none⟩), aV x a c, .bool true] w (RRePost w b S ({ s with t := Esch.set s.t (s.us.getD s.i.toNat 0) x.n } : ReS).next) := by
  obtain ⟨xc, xn, xd, ⟨xpe, xls⟩, xm, xs, xe⟩ := x
  obtain ⟨W0, hW0, hB0, hz0, b0, b1, b2, b3, b4, b5, b6, b7⟩ := an_boxA w (.int .i64 xc) (.int .i64 xn) (.string xd) (.int .i64 xpe) (.slice a xls.length c) (.int .i64 xm) (.int .i64 xs) (.int .i64 xe)
  have lt0 : w.heap.size < W0.heap.size := by omega
  have ltb : b < W0.heap.size := by have := h.lt; omega
  have h0 := h.below hB0
  have HW0 := Lib.hid hW0
  have HB0 := Lib.hid hB0
  clear hW0
  have c4 := h.c4
  have hl := h.lt
  have k0 := h0.c0
  obtain ⟨qa, qc, k1, hq⟩ := h0.c1
  have k2 := h0.c2
  obtain ⟨pa, pc, k3, hp⟩ := h0.c3
  have k4 := h0.c4
  have k5 := h0.c5
  obtain ⟨ta, tc, k6, htt⟩ := h0.c6
  have k7 := h0.c7
  have H0 := Lib.hid h0
  simp only at h8 ⊢
  subst h8
  have hup := fun W (hM : Mod none' W0 W) => runits_any _ W s.p.epoch pa pc s.p.chains h.smp (hp.mod (F := none') hM (fun _ _ _ => id))
  have hul := (us_le hg).2
  obtain ⟨i, hi'⟩ : ∃ i : Nat, s.i = i := ⟨s.i.toNat, by omega⟩
  obtain ⟨up, hup'⟩ : ∃ up, up = unitsOf s.p.chains.flatten := ⟨_, rfl⟩
  have hilt : i < up.length := by rw [hup']; have := hi.2; rw [hi'] at this; unfold ReS.us at this; omega
  obtain ⟨u, hu⟩ : ∃ u, u = up.getD i 0 := ⟨_, rfl⟩
  have hus : s.us.getD s.i.toNat 0 = u := by rw [hu, hup', hi']; rfl
  rw [hus] at hm ⊢
  rw [set_new hm]
  rw [← hup'] at hup
  rw [hi'] at k5
  rw [h1] at c4 k4
  have Hu := Lib.hid hu
  have Hi := Lib.hid (show 0 ≤ s.i ∧ s.i ≤ 100 by rw [← hup'] at hul; omega)
  have Hgd := Lib.hid hg
  have H1 := Lib.hid h1
  have HS := Lib.hid (show ∀ W', Mod none' W0 W' → Src Tryz.prog 2 95 (.slice ta s.t.length tc) s.t.length (cntCells s.t) W' from fun W' hM => (htt.mod hM (fun _ _ _ => id)).src Tryz.underlying95 (cntCells_one s.t))
  obtain ⟨j0, hii, hy0, hy1, hy2⟩ := info_parts (show (Tryz.prog.info? 102).map (fun i => (i.zero, i.size, i.bytes)) = some (some (.agg #[.int .i64 0, .int .i64 0]), 2, 16) by kernel_rfl)
  have d2 : W0.drew.cell? ⟨b, 2, none⟩ = some (.int .i64 s.p.epoch) := k2
  have d3 : W0.drew.cell? ⟨b, 3, none⟩ = some (.slice pa s.p.chains.length pc) := k3
  have d5 : W0.drew.cell? ⟨b, 5, none⟩ = some (.int .i64 i) := k5
  have d6 : W0.drew.cell? ⟨b, 6, none⟩ = some (.slice ta s.t.length tc) := k6
  have dx : W0.drew.cell? ⟨w.heap.size, 1, none⟩ = some (.int .i64 xn) := b1
  have i0 : (0 : Int) ≤ i := by omega
  have i1 : (i : Int) < up.length := by omega
  have f6 := h0.fr 6 (by omega)
  have hnb : W0.heap.size ≠ b := by omega
  have hnx' : W0.heap.size ≠ w.heap.size := by omega
  clear h h1 h0 hB0 hq hp hi hg hul hup' hi' hus hu htt hm
  simp only [aV]
  go_enter Tryz.func22, Tryz.ntmps22
  go_wp2_with fail
  rw [← HW0.out]
  refine wp_region_held_drew (S := fun w' => w'.cell? ⟨b, 2, none⟩ = some (.int .i64 s.p.epoch) ∧ w'.cell? ⟨b, 3, none⟩ = some (.slice pa s.p.chains.length pc) ∧ w'.cell? ⟨b, 5, none⟩ = some (.int .i64 i) ∧ w'.cell? ⟨w.heap.size, 1, none⟩ = some (.int .i64 xn)) (by kernel_rfl) ⟨d2, d3, d5, dx⟩ (fun hHeld => ?_)
  refine takeL 0 ?_
  refine takeL 2 ?_
  refine takeL 3 ?_
  refine takeL 4 ?_
  refine takeL 7 ?_
  refine takeL 8 ?_
  refine takeL 9 ?_
  refine takeL 10 ?_
  refine takeL 12 ?_
  refine takeL 13 ?_
  refine takeL 14 ?_
  refine takeL 15 ?_
  refine takeL 18 ?_
  refine takeL 19 ?_
  refine wpAnyH_ready (rs := [1, 5]) (by kernel_rfl) (by simp) ?_
  refine AllReadyH.cons (o := _) rfl (fun K hK => ?_) (AllReadyH.cons (o := _) rfl (fun K hK => ?_) AllReadyH.nil)
  · go_simp
    try go_wp2_with fail
    refine hK.out _ _ ⟨by go_simp, by go_simp, by go_simp, by go_simp⟩ (fun hHeld => ?_)
    clear hK K
    try simp only [Act.put, List.setIfInBounds_toArray, List.set_cons_zero, List.set_cons_succ]
    refine wpAnyH_ready (rs := [5]) (by kernel_rfl) (by simp) ?_
    refine AllReadyH.cons (o := _) rfl (fun K hK => ?_) AllReadyH.nil
    go_simp
    try go_wp2_with fail
    refine hK.out _ _ ⟨by go_simp, by go_simp, by go_simp, by go_simp⟩ (fun hHeld => ?_)
    clear hK K
    try simp only [Act.put, List.setIfInBounds_toArray, List.set_cons_zero, List.set_cons_succ]
    refine wpAnyH_ready (rs := [6]) (by kernel_rfl) (by simp) ?_
    refine AllReadyH.cons (o := _) rfl (fun K hK => ?_) AllReadyH.nil
    refine step_append_g (by rfl) (.tmp 62) (.tmp 66) 95 95 (by rfl) 102 j0 _ 16 Tryz.underlying95 hii hy0 hy1 hy2 (by rfl) (by rfl) (GRowAt.nil _ none' 2 _) _ s.t.length (cntCells s.t) (by rfl) (HS.out _ (by exact modC (Mod.refl _ _))) (by omega) (by omega) ?_
    intro a6 cap6 w6 hg6 hM6 hz6
    simp only [Nat.zero_add, List.nil_append] at hg6 ⊢
    have hMW6 : Mod none' W0 w6 := Mod.trans (by exact modC (Mod.refl _ _)) hM6
    have HG6 : Hid (GRowAt w6 (fun k => W0.heap.size ≤ k ∧ k < w6.heap.size) 2 s.t.length cap6 a6 (cntCells s.t)) := Lib.hid (hg6.sub (fun k hkl hk => by
      rcases hk with hk | hk
      · exact hk.elim
      · exact ⟨by rw [hk]; simp, hkl⟩))
    have HM6 := Lib.hid hMW6
    have e2 := hMW6.at k2 id
    have e3 := hMW6.at k3 id
    have e5 := hMW6.at k5 id
    have e6 := hMW6.at k6 id
    have ex := hMW6.at b1 id
    clear hg6 hM6 hz6 hMW6
    try go_wp2_with fail
    refine hK.out _ _ ⟨e2, e3, e5, ex⟩ (fun hHeld => ?_)
    clear hK K
    try simp only [Act.put, List.setIfInBounds_toArray, List.set_cons_zero, List.set_cons_succ]
    refine wpAnyH_ready (rs := [11]) (by kernel_rfl) (by simp) ?_
    refine AllReadyH.cons (o := _) rfl (fun K hK => ?_) AllReadyH.nil
    go_simp
    go_at_call 40
    with_reducible refine (hup w6 HM6.out).mono ?_
    clear hup
    rintro e w2 ⟨a2, n2, rfl, hl2, hB2, -⟩
    have hz6 := HM6.out.size
    have hl6 : b < w6.heap.size := by omega
    have hx6 : w.heap.size < w6.heap.size := by omega
    obtain ⟨b3', o3, rfl, hb3, hk3, hc3⟩ := hl2.2 (by omega)
    have hb3' : w6.heap.size ≤ b3' := hb3
    have x0 : w2.cell? ⟨b3', o3 + i, none⟩ = some (.int .i64 u) := by rw [Hu.out]; exact hc3 i hilt
    have y2 := below_at hB2 e2 hl6
    have y3 := below_at hB2 e3 hl6
    have y5 := below_at hB2 e5 hl6
    have y6 := below_at hB2 e6 hl6
    have yx := below_at hB2 ex hx6
    have HB2 := Lib.hid hB2
    have hz2 := hB2.size
    clear hB2 hl2 hc3 hb3
    try go_wp2_with fail
    refine hK.out _ _ ⟨y2, y3, y5, yx⟩ (fun hHeld => ?_)
    clear hK K
    try simp only [Act.put, List.setIfInBounds_toArray, List.set_cons_zero, List.set_cons_succ]
    refine wpAnyH_mono2 (S2 := fun w' => (w'.cell? ⟨b, 2, none⟩ = some (.int .i64 s.p.epoch) ∧ w'.cell? ⟨b, 3, none⟩ = some (.slice pa s.p.chains.length pc) ∧ w'.cell? ⟨b, 5, none⟩ = some (.int .i64 i) ∧ w'.cell? ⟨w.heap.size, 1, none⟩ = some (.int .i64 xn)) ∧ w'.cell? ⟨b3', o3 + i, none⟩ = some (.int .i64 u)) (fun _ h => h.1) ?_
    replace hHeld := And.intro hHeld x0
    refine takeL 16 ?_
    refine takeL 17 ?_
    refine takeL 20 ?_
    refine wpAnyH_ready (rs := [21]) (by kernel_rfl) (by simp) ?_
    refine AllReadyH.cons (o := _) rfl (fun K hK => ?_) AllReadyH.nil
    go_simp
    have hb3l : b3' < w2.heap.size := cell_lt x0
    have hb2l : b < w2.heap.size := cell_lt y2
    have hx2l : w.heap.size < w2.heap.size := cell_lt yx
    try go_wp2_with fail
    refine hK.out _ _ ⟨⟨by go_simp, by go_simp, by go_simp, by go_simp⟩, by go_simp⟩ (fun hHeld => ?_)
    clear hK K
    try simp only [Act.put, List.setIfInBounds_toArray, List.set_cons_zero, List.set_cons_succ]
    refine wpAnyH_ready (rs := [22]) (by kernel_rfl) (by simp) ?_
    refine AllReadyH.cons (o := _) rfl (fun K hK => ?_) AllReadyH.nil
    refine step_append_g (by rfl) (.tmp 67) (.tmp 82) 95 95 (by rfl) 102 j0 _ 16 Tryz.underlying95 hii hy0 hy1 hy2 (by rfl) (by rfl) ((HG6.out.mod (F := none') (Mod.of_below HB2.out) (fun _ _ _ => id)).mod (F := none') (by exact modC (Mod.refl _ _)) (fun _ _ _ => id)) _ 1 (cntC (u, xn)) (by rfl) (src_cnt _ _ Tryz.underlying95 w2.heap.size (u, xn) 102 (heap_alloc_new _ _) _) (by omega) (by omega) ?_
    intro a8 cap8 w8 hg8 hM8 hz8
    have hB8 : Below W0.heap.size W0 w8 := (HM6.out.below.trans (HB2.out.mono (by omega))).trans ((show Below W0.heap.size w2 _ from (Below.refl _ w2).alloc (by omega) _).trans (hM8.below_at (by simp only [World.size_alloc]; omega) (fun k hk e => by have e := e.1; omega)))
    have v2 := below_at hB8 k2 ltb
    have v3 := below_at hB8 k3 ltb
    have v5 := below_at hB8 k5 ltb
    have v6 := below_at hB8 k6 ltb
    have vx := below_at hB8 b1 lt0
    have vf6 := (hB8.frozen (p := ⟨b, 6, none⟩) ltb).trans f6
    have vu : w8.cell? ⟨b3', o3 + i, none⟩ = some (.int .i64 u) := hM8.at (by go_simp) (fun e => by have e := e.2; omega)
    have HB8 := Lib.hid hB8
    have HG8 : Hid (GRowAt w8 (From W0.heap.size) 2 (s.t.length + 1) cap8 a8 (cntCells (s.t ++ [(u, xn)]))) := Lib.hid (by
      rw [cntCells_append]
      refine (show GRowAt w8 _ 2 (s.t.length + 1) cap8 a8 (cntCells s.t ++ cntCells [(u, xn)]) from by simpa [cntCells] using hg8).sub (fun k _ hk => ?_)
      rcases hk with hk | hk
      · exact hk.1
      · show W0.heap.size ≤ k; have hzz := hB8.size; rw [hk]; first | omega | (simp only [World.size_alloc]; omega))
    have hnw : w.heap.size ≠ b := by omega
    have hnb3 : b3' ≠ b := by omega
    have hl8 : b < w8.heap.size := cell_lt v2
    clear hg8 hM8 hz8 hB8
    try go_wp2_with fail
    refine hK.out _ _ ⟨⟨v2, v3, v5, vx⟩, vu⟩ (fun hHeld => ?_)
    clear hK K
    try simp only [Act.put, List.setIfInBounds_toArray, List.set_cons_zero, List.set_cons_succ]
    refine takeL 23 ?_
    refine takeL 24 ?_
    refine wpAnyH_ready (rs := [25]) (by kernel_rfl) (by simp) ?_
    refine AllReadyH.cons (o := _) rfl (fun K hK => ?_) AllReadyH.nil
    go_simp
    try go_wp2_with fail
    refine hK.out _ _ ⟨⟨by go_simp, by go_simp, by go_simp, by go_simp⟩, by go_simp⟩ (fun hHeld => ?_)
    clear hK K
    try simp only [Act.put, List.setIfInBounds_toArray, List.set_cons_zero, List.set_cons_succ]
    refine wpAnyH_done (by kernel_rfl) ?_ _
    obtain ⟨hP, hMP⟩ := H0.out.put (n := s.t.length + 1) (t := s.t ++ [(u, xn)]) HB8.out HG8.out (by rw [List.length_append]; rfl)
    obtain ⟨w9, hw9⟩ : ∃ w9, w9 = w8.setCell ⟨b, 6, none⟩ (.slice a8 (s.t.length + 1) cap8) := ⟨_, rfl⟩
    rw [← hw9] at hP hMP ⊢
    have hnx := rreNext_any hP H1.out Hi.out Hgd.out
    have HMP := Lib.hid hMP
    have hz89 : w9.heap.size = w8.heap.size := by rw [hw9, World.size_setCell]
    clear hHeld hP hMP hw9 v2 v3 v5 v6 vx vu vf6 y2 y3 y5 y6 yx x0 e2 e3 e5 e6 ex d2 d3 d5 d6 dx
    go_wp2_with fail
    refine hnx.mono ?_
    clear hnx
    rintro e w10 ⟨rfl, hA9, hM9⟩
    have HA9 := Lib.hid hA9
    have HM9 := Lib.hid hM9
    have hz0' := HB0.out.size
    clear hA9 hM9
    go_wp2_with fail
    go_end0
    have hz9 := HM9.out.size
    exact ⟨rfl, HA9.out.sub (fun k hk h => h.imp id (fun e => ⟨by omega, hk⟩)), ((Mod.of_below HB0.out).trans HMP.out).trans HM9.out⟩
  · go_simp
    try go_wp2_with fail
    refine hK.out _ _ ⟨d2, d3, d5, dx⟩ (fun hHeld => ?_)
    clear hK K
    try simp only [Act.put, List.setIfInBounds_toArray, List.set_cons_zero, List.set_cons_succ]
    refine wpAnyH_ready (rs := [1]) (by kernel_rfl) (by simp) ?_
    refine AllReadyH.cons (o := _) rfl (fun K hK => ?_) AllReadyH.nil
    go_simp
    try go_wp2_with fail
    refine hK.out _ _ ⟨by go_simp, by go_simp, by go_simp, by go_simp⟩ (fun hHeld => ?_)
    clear hK K
    try simp only [Act.put, List.setIfInBounds_toArray, List.set_cons_zero, List.set_cons_succ]
    refine wpAnyH_ready (rs := [6]) (by kernel_rfl) (by simp) ?_
    refine AllReadyH.cons (o := _) rfl (fun K hK => ?_) AllReadyH.nil
    refine step_append_g (by rfl) (.tmp 62) (.tmp 66) 95 95 (by rfl) 102 j0 _ 16 Tryz.underlying95 hii hy0 hy1 hy2 (by rfl) (by rfl) (GRowAt.nil _ none' 2 _) _ s.t.length (cntCells s.t) (by rfl) (HS.out _ (by exact modC (Mod.refl _ _))) (by omega) (by omega) ?_
    intro a6 cap6 w6 hg6 hM6 hz6
    simp only [Nat.zero_add, List.nil_append] at hg6 ⊢
    have hMW6 : Mod none' W0 w6 := Mod.trans (by exact modC (Mod.refl _ _)) hM6
    have HG6 : Hid (GRowAt w6 (fun k => W0.heap.size ≤ k ∧ k < w6.heap.size) 2 s.t.length cap6 a6 (cntCells s.t)) := Lib.hid (hg6.sub (fun k hkl hk => by
      rcases hk with hk | hk
      · exact hk.elim
      · exact ⟨by rw [hk]; simp, hkl⟩))
    have HM6 := Lib.hid hMW6
    have e2 := hMW6.at k2 id
    have e3 := hMW6.at k3 id
    have e5 := hMW6.at k5 id
    have e6 := hMW6.at k6 id
    have ex := hMW6.at b1 id
    clear hg6 hM6 hz6 hMW6
    try go_wp2_with fail
    refine hK.out _ _ ⟨e2, e3, e5, ex⟩ (fun hHeld => ?_)
    clear hK K
    try simp only [Act.put, List.setIfInBounds_toArray, List.set_cons_zero, List.set_cons_succ]
    refine wpAnyH_ready (rs := [11]) (by kernel_rfl) (by simp) ?_
    refine AllReadyH.cons (o := _) rfl (fun K hK => ?_) AllReadyH.nil
    go_simp
    go_at_call 40
    with_reducible refine (hup w6 HM6.out).mono ?_
    clear hup
    rintro e w2 ⟨a2, n2, rfl, hl2, hB2, -⟩
    have hz6 := HM6.out.size
    have hl6 : b < w6.heap.size := by omega
    have hx6 : w.heap.size < w6.heap.size := by omega
    obtain ⟨b3', o3, rfl, hb3, hk3, hc3⟩ := hl2.2 (by omega)
    have hb3' : w6.heap.size ≤ b3' := hb3
    have x0 : w2.cell? ⟨b3', o3 + i, none⟩ = some (.int .i64 u) := by rw [Hu.out]; exact hc3 i hilt
    have y2 := below_at hB2 e2 hl6
    have y3 := below_at hB2 e3 hl6
    have y5 := below_at hB2 e5 hl6
    have y6 := below_at hB2 e6 hl6
    have yx := below_at hB2 ex hx6
    have HB2 := Lib.hid hB2
    have hz2 := hB2.size
    clear hB2 hl2 hc3 hb3
    try go_wp2_with fail
    refine hK.out _ _ ⟨y2, y3, y5, yx⟩ (fun hHeld => ?_)
    clear hK K
    try simp only [Act.put, List.setIfInBounds_toArray, List.set_cons_zero, List.set_cons_succ]
    refine wpAnyH_mono2 (S2 := fun w' => (w'.cell? ⟨b, 2, none⟩ = some (.int .i64 s.p.epoch) ∧ w'.cell? ⟨b, 3, none⟩ = some (.slice pa s.p.chains.length pc) ∧ w'.cell? ⟨b, 5, none⟩ = some (.int .i64 i) ∧ w'.cell? ⟨w.heap.size, 1, none⟩ = some (.int .i64 xn)) ∧ w'.cell? ⟨b3', o3 + i, none⟩ = some (.int .i64 u)) (fun _ h => h.1) ?_
    replace hHeld := And.intro hHeld x0
    refine takeL 16 ?_
    refine takeL 17 ?_
    refine takeL 20 ?_
    refine wpAnyH_ready (rs := [21]) (by kernel_rfl) (by simp) ?_
    refine AllReadyH.cons (o := _) rfl (fun K hK => ?_) AllReadyH.nil
    go_simp
    have hb3l : b3' < w2.heap.size := cell_lt x0
    have hb2l : b < w2.heap.size := cell_lt y2
    have hx2l : w.heap.size < w2.heap.size := cell_lt yx
    try go_wp2_with fail
    refine hK.out _ _ ⟨⟨by go_simp, by go_simp, by go_simp, by go_simp⟩, by go_simp⟩ (fun hHeld => ?_)
    clear hK K
    try simp only [Act.put, List.setIfInBounds_toArray, List.set_cons_zero, List.set_cons_succ]
    refine wpAnyH_ready (rs := [22]) (by kernel_rfl) (by simp) ?_
    refine AllReadyH.cons (o := _) rfl (fun K hK => ?_) AllReadyH.nil
    refine step_append_g (by rfl) (.tmp 67) (.tmp 82) 95 95 (by rfl) 102 j0 _ 16 Tryz.underlying95 hii hy0 hy1 hy2 (by rfl) (by rfl) ((HG6.out.mod (F := none') (Mod.of_below HB2.out) (fun _ _ _ => id)).mod (F := none') (by exact modC (Mod.refl _ _)) (fun _ _ _ => id)) _ 1 (cntC (u, xn)) (by rfl) (src_cnt _ _ Tryz.underlying95 w2.heap.size (u, xn) 102 (heap_alloc_new _ _) _) (by omega) (by omega) ?_
    intro a8 cap8 w8 hg8 hM8 hz8
    have hB8 : Below W0.heap.size W0 w8 := (HM6.out.below.trans (HB2.out.mono (by omega))).trans ((show Below W0.heap.size w2 _ from (Below.refl _ w2).alloc (by omega) _).trans (hM8.below_at (by simp only [World.size_alloc]; omega) (fun k hk e => by have e := e.1; omega)))
    have v2 := below_at hB8 k2 ltb
    have v3 := below_at hB8 k3 ltb
    have v5 := below_at hB8 k5 ltb
    have v6 := below_at hB8 k6 ltb
    have vx := below_at hB8 b1 lt0
    have vf6 := (hB8.frozen (p := ⟨b, 6, none⟩) ltb).trans f6
    have vu : w8.cell? ⟨b3', o3 + i, none⟩ = some (.int .i64 u) := hM8.at (by go_simp) (fun e => by have e := e.2; omega)
    have HB8 := Lib.hid hB8
    have HG8 : Hid (GRowAt w8 (From W0.heap.size) 2 (s.t.length + 1) cap8 a8 (cntCells (s.t ++ [(u, xn)]))) := Lib.hid (by
      rw [cntCells_append]
      refine (show GRowAt w8 _ 2 (s.t.length + 1) cap8 a8 (cntCells s.t ++ cntCells [(u, xn)]) from by simpa [cntCells] using hg8).sub (fun k _ hk => ?_)
      rcases hk with hk | hk
      · exact hk.1
      · show W0.heap.size ≤ k; have hzz := hB8.size; rw [hk]; first | omega | (simp only [World.size_alloc]; omega))
    have hnw : w.heap.size ≠ b := by omega
    have hnb3 : b3' ≠ b := by omega
    have hl8 : b < w8.heap.size := cell_lt v2
    clear hg8 hM8 hz8 hB8
    try go_wp2_with fail
    refine hK.out _ _ ⟨⟨v2, v3, v5, vx⟩, vu⟩ (fun hHeld => ?_)
    clear hK K
    try simp only [Act.put, List.setIfInBounds_toArray, List.set_cons_zero, List.set_cons_succ]
    refine takeL 23 ?_
    refine takeL 24 ?_
    refine wpAnyH_ready (rs := [25]) (by kernel_rfl) (by simp) ?_
    refine AllReadyH.cons (o := _) rfl (fun K hK => ?_) AllReadyH.nil
    go_simp
    try go_wp2_with fail
    refine hK.out _ _ ⟨⟨by go_simp, by go_simp, by go_simp, by go_simp⟩, by go_simp⟩ (fun hHeld => ?_)
    clear hK K
    try simp only [Act.put, List.setIfInBounds_toArray, List.set_cons_zero, List.set_cons_succ]
    refine wpAnyH_done (by kernel_rfl) ?_ _
    obtain ⟨hP, hMP⟩ := H0.out.put (n := s.t.length + 1) (t := s.t ++ [(u, xn)]) HB8.out HG8.out (by rw [List.length_append]; rfl)
    obtain ⟨w9, hw9⟩ : ∃ w9, w9 = w8.setCell ⟨b, 6, none⟩ (.slice a8 (s.t.length + 1) cap8) := ⟨_, rfl⟩
    rw [← hw9] at hP hMP ⊢
    have hnx := rreNext_any hP H1.out Hi.out Hgd.out
    have HMP := Lib.hid hMP
    have hz89 : w9.heap.size = w8.heap.size := by rw [hw9, World.size_setCell]
    clear hHeld hP hMP hw9 v2 v3 v5 v6 vx vu vf6 y2 y3 y5 y6 yx x0 e2 e3 e5 e6 ex d2 d3 d5 d6 dx
    go_wp2_with fail
    refine hnx.mono ?_
    clear hnx
    rintro e w10 ⟨rfl, hA9, hM9⟩
    have HA9 := Lib.hid hA9
    have HM9 := Lib.hid hM9
    have hz0' := HB0.out.size
    clear hA9 hM9
    go_wp2_with fail
    go_end0
    have hz9 := HM9.out.size
    exact ⟨rfl, HA9.out.sub (fun k hk h => h.imp id (fun e => ⟨by omega, hk⟩)), ((Mod.of_below HB0.out).trans HMP.out).trans HM9.out⟩
/-- what a change keeps as it goes on -/
structure ReS.ok2 (s : ReS) : Prop where
  ok : s.ok
  z : s.at = 0 → s.i = 0
  ln : s.at ≠ 4 → 0 ≤ s.i ∧ s.i ≤ 16 ∧ (s.t.length : Int) ≤ s.i
  nd : s.at ≠ 4 → (s.t.map Prod.fst).Nodup
  ks : s.at ≠ 4 → ∀ k ∈ s.t.map Prod.fst, k ∈ s.us.take s.i.toNat
theorem ReS.ok2.fresh {s : ReS} (h : s.ok2) (h1 : s.at = 1) : s.us.getD s.i.toNat 0 ∉ s.t.map Prod.fst := fun hm => by
  have h2 := h.ks (by omega) _ hm
  obtain ⟨u0, u1⟩ := h.ok.un h1
  have hlt : s.i.toNat < s.us.length := by omega
  rw [List.getD_eq_getElem?_getD, List.getElem?_eq_getElem hlt, Option.getD_some] at h2
  obtain ⟨j, hj, e⟩ := List.mem_iff_getElem.1 h2
  rw [List.length_take] at hj
  rw [List.getElem_take] at e
  have h3 := List.pairwise_iff_getElem.1 (rising_unitsOf s.p.chains.flatten) j s.i.toNat (by show j < s.us.length; omega) hlt (by omega)
  have h4 : s.us[j] < s.us[s.i.toNat] := h3
  omega
theorem ReS.ok2.endd {s : ReS} (e : Int) : (s.endd e).ok2 := ⟨s.endd_ok e, fun h => by simp [ReS.endd] at h, fun h => absurd rfl h, fun h => absurd rfl h, fun h => absurd rfl h⟩
theorem ReS.ok2.next {s : ReS} (h : s.ok2) (h1 : s.at = 1) {t : List (Int × Int)} (hl : t.length ≤ s.t.length + 1) (hn : (t.map Prod.fst).Nodup) (hk : ∀ k ∈ t.map Prod.fst, k ∈ s.us.take (s.i.toNat + 1)) : ({ s with t := t } : ReS).next.ok2 := by
  obtain ⟨u0, u1⟩ := h.ok.un h1
  have hg := h.ok.gp (by omega) (by omega)
  have hln := h.ln (by omega)
  have hul := (us_le hg).2
  have hus : (s.us.length : Int) ≤ 16 := by show ((unitsOf s.p.chains.flatten).length : Int) ≤ 16; omega
  refine ⟨ReS.next_ok ⟨h.ok.wh, h.ok.un, h.ok.gp⟩ h1, fun e => ?_, fun _ => ?_, fun _ => ?_, fun _ => ?_⟩
  · unfold ReS.next at e
    simp only at e
    split at e
    · omega
    · omega
  · show 0 ≤ s.i + 1 ∧ s.i + 1 ≤ 16 ∧ (t.length : Int) ≤ s.i + 1
    omega
  · exact hn
  · show ∀ k ∈ t.map Prod.fst, k ∈ s.us.take (s.i + 1).toNat
    rw [show (s.i + 1).toNat = s.i.toNat + 1 by omega]
    exact hk
theorem re0_ok2 (q : Proj) : (re0 q).ok2 := by
  refine ⟨re0_ok q, ?_, ?_, ?_, ?_⟩
  all_goals
    unfold re0
    split
    all_goals simp
theorem ReS.ok2.hear {s : ReS} (h : s.ok2) (x : AnS) (b : Bool) : (s.hear x b).ok2 := by
  have hok := ReS.hear_ok h.ok x b
  unfold ReS.hear at hok ⊢
  by_cases e0 : s.at = 4 ∨ b = false ∨ x.code = 45
  · rw [if_pos e0]; exact h
  rw [if_neg e0] at hok ⊢
  have h4 : s.at ≠ 4 := fun e => e0 (Or.inl e)
  by_cases e1 : s.at = 0
  · rw [if_pos e1] at hok ⊢
    by_cases e2 : x.code ≠ 0
    · rw [if_pos e2]; exact ReS.ok2.endd _
    rw [if_neg e2] at hok ⊢
    by_cases e3 : nextB x.p s.q = true
    · rw [if_pos e3] at hok ⊢
      have hz := h.z e1
      have hl := h.ln h4
      have ht : s.t = [] := List.length_eq_zero_iff.1 (by omega)
      exact ⟨hok, fun e => by simp at e, fun _ => ⟨by simp, by simp, by simp [ht]⟩, fun _ => by simp [ht], fun _ => by simp [ht]⟩
    · rw [if_neg e3]; exact ReS.ok2.endd _
  rw [if_neg e1] at hok ⊢
  by_cases e2 : s.at = 1
  · rw [if_pos e2] at hok ⊢
    by_cases e3 : x.code ≠ 0
    · rw [if_pos e3]; exact ReS.ok2.endd _
    rw [if_neg e3]
    have hf := h.fresh e2
    obtain ⟨u0, u1⟩ := h.ok.un e2
    have hlt : s.i.toNat < s.us.length := by omega
    rw [set_new hf]
    refine h.next e2 (by simp) ?_ ?_
    · rw [List.map_append]
      refine List.nodup_append.2 ⟨h.nd h4, by simp, fun a ha b hb => ?_⟩
      simp only [List.map_cons, List.map_nil, List.mem_singleton] at hb
      subst hb
      exact fun e => hf (e ▸ ha)
    · intro k hk
      rw [List.take_add_one, List.getElem?_eq_getElem hlt, Option.toList_some, List.mem_append]
      rw [List.map_append, List.mem_append] at hk
      rcases hk with hk | hk
      · exact Or.inl (h.ks h4 k hk)
      · refine Or.inr ?_
        simp only [List.map_cons, List.map_nil, List.mem_singleton] at hk ⊢
        rw [hk, List.getD_eq_getElem?_getD, List.getElem?_eq_getElem hlt, Option.getD_some]
  rw [if_neg e2] at hok ⊢
  by_cases e3 : s.at = 2
  · rw [if_pos e3] at hok ⊢
    by_cases e4 : x.code = 0 ∨ (x.code = 48 ∧ x.p = s.q)
    · rw [if_pos e4] at hok ⊢
      exact ⟨hok, fun e => by simp at e, fun _ => h.ln h4, fun _ => h.nd h4, fun _ => h.ks h4⟩
    · rw [if_neg e4]; exact ReS.ok2.endd _
  rw [if_neg e3]
  by_cases e4 : x.code = 40 ∧ x.epoch = s.q.epoch
  · rw [if_pos e4]; exact ReS.ok2.endd _
  · rw [if_neg e4]; exact ReS.ok2.endd _
theorem ReS.ok2.skip {s : ReS} (h : s.ok2) : s.skip.ok2 := by
  unfold ReS.skip
  by_cases e : s.skipB = true
  · rw [if_pos e]
    have h1 : s.at = 1 := by unfold ReS.skipB at e; simp at e; exact e.1
    exact h.next (t := s.t) h1 (by omega) (h.nd (by omega)) (fun k hk => by
      rw [List.take_add_one, List.mem_append]
      exact Or.inl (h.ks (by omega) k hk))
  · rw [if_neg e]; exact h
theorem rreHear_any (h : RReAt w b S s) (hk : s.ok2) (S' : Nat → Prop) (hl0 : ListsAt S' w a x.p.chains) : Calls Tryz.prog 22 #[.pointer (some ⟨b, 0, none⟩), aV x a c, .bool hd] w (RRePost w b S (s.hear x hd)) := by
  unfold ReS.hear
  by_cases h0 : s.at = 4 ∨ hd = false ∨ x.code = 45
  · rw [if_pos h0]; exact rreHear_no x a c hd h h0
  rw [if_neg h0]
  simp only [not_or] at h0
  obtain ⟨h4, hb, hc⟩ := h0
  have hb : hd = true := by cases hd <;> simp_all
  subst hb
  by_cases h1 : s.at = 0
  · rw [if_pos h1]
    by_cases e : x.code ≠ 0
    · rw [if_pos e]; exact rreHear_layE x a c h h1 hc e
    · rw [if_neg e]; exact rreHear_lay x a c h h1 (hk.z h1) (by omega) S' hl0
  rw [if_neg h1]
  by_cases h2 : s.at = 1
  · rw [if_pos h2]
    by_cases e : x.code ≠ 0
    · rw [if_pos e]; exact rreHear_sealE x a c h h2 hc e
    · rw [if_neg e]; exact rreHear_seal x a c h h2 (by omega) (hk.ok.un h2) (hk.ok.gp h1 h4) (hk.fresh h2) (by have := hk.ln h4; omega)
  rw [if_neg h2]
  by_cases h3 : s.at = 2
  · rw [if_pos h3]
    by_cases e : x.code = 0
    · rw [if_pos (Or.inl e)]; exact rreHear_chg0 x a c h h3 e
    by_cases e8 : x.code = 48
    · have := rreHear_chg8 x a c h h3 e8 S' hl0
      by_cases e9 : x.p = s.q
      · rw [if_pos (Or.inr ⟨e8, e9⟩)]; rw [if_pos e9] at this; exact this
      · rw [if_neg (fun g => g.elim e (fun g => e9 g.2)), e8]; rw [if_neg e9] at this; exact this
    · rw [if_neg (fun g => g.elim e (fun g => e8 g.1))]; exact rreHear_chgE x a c h h3 hc e e8
  rw [if_neg h3]
  exact rreHear_start x a c h (by have := hk.ok.wh; omega) hc
end
end Go.Proofs.YtghdhhbpbmhooaaGreat
