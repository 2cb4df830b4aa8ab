/- the log's tail: what it hears -/
import Derived.Test.YtghdhhbpbmhooaaGreatTail
import Derived.Test.YtghdhhbpbmhooaaGreatPkApp
namespace Go.Proofs.YtghdhhbpbmhooaaGreat
open Go.RowKit Esch

def TaS.hear (s : TaS) (x : AnS) (heard : Bool) : TaS :=
  if s.at = 2 ∨ heard = false ∨ x.code = 45 ∨ x.code = 47 then s
  else if x.code = 40 then { s with «at» := 0 }
  else if s.at = 1 then
    (if x.code ≠ 0 then { s with «at» := 2, err := x.code } else if x.n < 0 ∨ 16384 < x.n then { s with «at» := 2, err := 1 } else { s with «at» := 2, err := 0, addr := x.n })
  else if x.code = 0 ∧ goodB x.p = true then { s with p := x.p, «at» := 1 }
  else s
theorem an_boxA (w : World) (x0 x1 x2 x3 x4 x5 x6 x7 : Value) : ∃ W, W = w.alloc (.cells #[x0, x1, x2, x3, x4, x5, x6, x7] 49) ∧ Below w.heap.size w W ∧ W.heap.size = w.heap.size + 1 ∧ W.cell? ⟨w.heap.size, 0, none⟩ = some x0 ∧ W.cell? ⟨w.heap.size, 1, none⟩ = some x1 ∧ W.cell? ⟨w.heap.size, 2, none⟩ = some x2 ∧ W.cell? ⟨w.heap.size, 3, none⟩ = some x3 ∧ W.cell? ⟨w.heap.size, 4, none⟩ = some x4 ∧ W.cell? ⟨w.heap.size, 5, none⟩ = some x5 ∧ W.cell? ⟨w.heap.size, 6, none⟩ = some x6 ∧ W.cell? ⟨w.heap.size, 7, none⟩ = some x7 :=
  ⟨_, rfl, by exact belC (Below.refl _ _), by simp, by go_simp, by go_simp, by go_simp, by go_simp, by go_simp, by go_simp, by go_simp, by go_simp⟩
def TailHearPost (w : World) (tb : Nat) (S : Nat → Prop) (s : TaS) (e : Ending) (w' : World) : Prop := e = .returned (.tuple #[]) ∧ TailAt w' tb (fun k => S k ∨ (w.heap.size ≤ k ∧ k < w'.heap.size)) s ∧ Mod (· = tb) w w'
theorem TailAt.post0 {w w' : World} {tb : Nat} {S : Nat → Prop} {s : TaS} (h : TailAt w tb S s) (hB : Below w.heap.size w w') {e : Ending} (he : e = .returned (.tuple #[])) : TailHearPost w tb S s e w' := ⟨he, (h.below hB).sub (fun _ _ hk => Or.inl hk), Mod.of_below hB⟩
section
variable {w : World} {tb : Nat} {S : Nat → Prop} {s : TaS} (x : AnS) (a : Option Addr) (c : Nat) (b : Bool)
set_option maxHeartbeats 1000000 in
theorem tailHear_no (h : TailAt w tb S s) (hn : s.at = 2 ∨ b = false ∨ x.code = 45 ∨ x.code = 47) : Calls Tryz.prog 69 #[.pointer (some ⟨tb, 0, none⟩), aV x a c, .bool b] w (TailHearPost w tb S s) := by
  have H := Lib.hid h
  have c2 := h.c2
  have hl := h.lt
  clear h
  by_cases h2 : s.at = 2
  · rw [h2] at c2
    clear hn h2
    simp only [aV]
    go_enter Tryz.func69, Tryz.ntmps69
    go_wp2_with fail
    go_step3
    go_wp2_with fail
    rw [Exit.noGoto_ret]
    go_end0
    exact H.out.post0 (by exact belC (Below.refl _ _)) rfl
  · have e2 : (s.at == 2) = false := by simpa using h2
    cases b
    · clear hn h2
      simp only [aV]
      go_enter Tryz.func69, Tryz.ntmps69
      go_wp2_with fail
      go_step3
      go_wp2_with fail
      rw [Exit.noGoto_ret]
      go_end0
      exact H.out.post0 (by exact belC (Below.refl _ _)) rfl
    · have hn : x.code = 45 ∨ x.code = 47 := by
        rcases hn with hn | hn | hn
        · exact absurd hn h2
        · cases hn
        · exact hn
      obtain ⟨xc, xn, xd, xp, xm, xs, xe⟩ := x
      simp only at hn
      clear h2
      rcases hn with rfl | rfl
      all_goals
        simp only [aV]
        go_enter Tryz.func69, Tryz.ntmps69
        go_wp2_with fail
        go_step3
        go_wp2_with fail
        rw [Exit.noGoto_ret]
        go_end0
        exact H.out.post0 (by exact belC (Below.refl _ _)) rfl
/-- a tail whose where, address and error have been written -/
theorem TailAt.wrote {w' : World} {p2 a3 e4 : Int} (h : TailAt w tb S s) (hM : Mod (· = tb) w w') (c2 : w'.cell? ⟨tb, 2, none⟩ = some (.int .i64 p2)) (c3 : w'.cell? ⟨tb, 3, none⟩ = some (.int .i64 a3)) (c4 : w'.cell? ⟨tb, 4, none⟩ = some (.int .i64 e4)) (c0 : w'.cell? ⟨tb, 0, none⟩ = some (.int .i64 s.p.epoch))
    (c1 : w'.cell? ⟨tb, 1, none⟩ = w.cell? ⟨tb, 1, none⟩) (fr : ∀ o, w'.frozen? ⟨tb, o, none⟩ = w.frozen? ⟨tb, o, none⟩) {e : Ending} (he : e = .returned (.tuple #[])) : TailHearPost w tb S ⟨s.p, p2, a3, e4⟩ e w' := by
  obtain ⟨ca, cc, h1, h2⟩ := h.c1
  exact ⟨he, ⟨c0, ⟨ca, cc, c1.trans h1, (h2.sub (fun k _ hk => ⟨Or.inl hk.1, hk.2⟩)).mod hM (fun k hk _ => hk.2)⟩, c2, c3, c4, fun o ho => (fr o).trans (h.fr o ho), Or.inl h.sb, h.small⟩, hM⟩
set_option maxHeartbeats 1000000 in
theorem tailHear_sealed (h : TailAt w tb S s) (h2 : s.at ≠ 2) (hc : x.code = 40) : Calls Tryz.prog 69 #[.pointer (some ⟨tb, 0, none⟩), aV x a c, .bool true] w (TailHearPost w tb S { s with «at» := 0 }) := by
  have H := Lib.hid h
  have c0 := h.c0
  have c2 := h.c2
  have c3 := h.c3
  have c4 := h.c4
  have f2 := h.fr 2 (by omega)
  have hl := h.lt
  have e2 : (s.at == 2) = false := by simpa using h2
  obtain ⟨xc, xn, xd, xp, xm, xs, xe⟩ := x
  simp only at hc
  subst hc
  clear h h2
  simp only [aV]
  go_enter Tryz.func69, Tryz.ntmps69
  go_wp2_with fail
  go_step3
  go_wp2_with fail
  rw [Exit.noGoto_ret]
  go_end0
  exact H.out.wrote (by exact modC (Mod.refl _ _)) (by go_simp) (by go_simp) (by go_simp) (by go_simp) (by go_simp) (fun o => by go_simp) rfl
set_option maxHeartbeats 1000000 in
theorem tailHear_tailE (h : TailAt w tb S s) (h2 : s.at = 1) (hc : x.code ≠ 45 ∧ x.code ≠ 47 ∧ x.code ≠ 40) (h0 : x.code ≠ 0) : Calls Tryz.prog 69 #[.pointer (some ⟨tb, 0, none⟩), aV x a c, .bool true] w (TailHearPost w tb S { s with «at» := 2, err := x.code }) := by
  have H := Lib.hid h
  have c0 := h.c0
  have c2 := h.c2
  have c3 := h.c3
  have c4 := h.c4
  have f2 := h.fr 2 (by omega)
  have f3 := h.fr 3 (by omega)
  have f4 := h.fr 4 (by omega)
  have hl := h.lt
  rw [h2] at c2
  have e5 : (x.code == 45) = false := by simpa using hc.1
  have e7 : (x.code == 47) = false := by simpa using hc.2.1
  have e0 : (x.code == 40) = false := by simpa using hc.2.2
  have ez : (x.code != 0) = true := by simpa using h0
  clear h h2 hc h0
  simp only [aV]
  go_enter Tryz.func69, Tryz.ntmps69
  go_wp2_with fail
  refine wp_scope_fwd ?_
  intro code hcode
  have Hcode := Lib.hid hcode
  clear hcode
  go_wp2_with fail
  go_step3
  go_wp2_with fail
  refine ⟨_, by rw [Hcode.out]; rfl, ?_⟩
  clear Hcode
  go_wp2_with fail
  rw [Exit.noGoto_normal]
  go_end0
  exact H.out.wrote (by exact modC (Mod.refl _ _)) (by go_simp) (by go_simp) (by first | (go_simp; done) | (go_simp; exact World.cell?_setCell_same' _ _ _ (by go_simp))) (by go_simp) (by go_simp) (fun o => by go_simp) rfl
set_option maxHeartbeats 1000000 in
theorem tailHear_tail0 (h : TailAt w tb S s) (h2 : s.at = 1) (h0 : x.code = 0) (hn : x.n < 0 ∨ 16384 < x.n) : Calls Tryz.prog 69 #[.pointer (some ⟨tb, 0, none⟩), aV x a c, .bool true] w (TailHearPost w tb S { s with «at» := 2, err := 1 }) := by
  have H := Lib.hid h
  have c0 := h.c0
  have c2 := h.c2
  have c3 := h.c3
  have c4 := h.c4
  have f2 := h.fr 2 (by omega)
  have f3 := h.fr 3 (by omega)
  have f4 := h.fr 4 (by omega)
  have hl := h.lt
  rw [h2] at c2
  obtain ⟨xc, xn, xd, xp, xm, xs, xe⟩ := x
  simp only at h0 hn
  subst h0
  have hn' : xn < 0 ∨ (0 ≤ xn ∧ 16384 < xn) := by omega
  clear h h2 hn
  rcases hn' with hn | ⟨hn, hn2⟩
  all_goals
    simp only [aV]
    go_enter Tryz.func69, Tryz.ntmps69
    go_wp2_with fail
    refine wp_scope_fwd ?_
    intro code hcode
    have Hcode := Lib.hid hcode
    clear hcode
    go_wp2_with fail
    go_step3
    go_wp2_with fail
    refine ⟨_, by rw [Hcode.out]; rfl, ?_⟩
    clear Hcode
    go_wp2_with fail
    rw [Exit.noGoto_normal]
    go_end0
    exact H.out.wrote (by exact modC (Mod.refl _ _)) (by go_simp) (by go_simp) (by first | (go_simp; done) | (go_simp; exact World.cell?_setCell_same' _ _ _ (by go_simp))) (by go_simp) (by go_simp) (fun o => by go_simp) rfl
set_option maxHeartbeats 1000000 in
theorem tailHear_tailN (h : TailAt w tb S s) (h2 : s.at = 1) (h0 : x.code = 0) (hn : 0 ≤ x.n ∧ x.n ≤ 16384) : Calls Tryz.prog 69 #[.pointer (some ⟨tb, 0, none⟩), aV x a c, .bool true] w (TailHearPost w tb S { s with «at» := 2, err := 0, addr := x.n }) := by
  have H := Lib.hid h
  have c0 := h.c0
  have c2 := h.c2
  have c3 := h.c3
  have c4 := h.c4
  have f2 := h.fr 2 (by omega)
  have f3 := h.fr 3 (by omega)
  have f4 := h.fr 4 (by omega)
  have hl := h.lt
  rw [h2] at c2
  obtain ⟨xc, xn, xd, xp, xm, xs, xe⟩ := x
  simp only at h0 hn
  subst h0
  obtain ⟨n0, n1⟩ := hn
  clear h h2
  simp only [aV]
  go_enter Tryz.func69, Tryz.ntmps69
  go_wp2_with fail
  refine wp_scope_fwd ?_
  intro code hcode
  have Hcode := Lib.hid hcode
  clear hcode
  go_wp2_with fail
  go_step3
  go_wp2_with fail
  refine ⟨_, by rw [Hcode.out]; rfl, ?_⟩
  clear Hcode
  go_wp2_with fail
  rw [Exit.noGoto_normal]
  go_end0
  exact H.out.wrote (by exact modC (Mod.refl _ _)) (by go_simp) (by go_simp) (by first | (go_simp; done) | (go_simp; exact World.cell?_setCell_same' _ _ _ (by go_simp))) (by go_simp) (by go_simp) (fun o => by go_simp) rfl
set_option maxHeartbeats 1000000 in
theorem tailHear_layE (h : TailAt w tb S s) (h2 : s.at ≠ 2 ∧ s.at ≠ 1) (hc : x.code ≠ 45 ∧ x.code ≠ 47 ∧ x.code ≠ 40) (h0 : x.code ≠ 0) : Calls Tryz.prog 69 #[.pointer (some ⟨tb, 0, none⟩), aV x a c, .bool true] w (TailHearPost w tb S s) := by
  have H := Lib.hid h
  have c0 := h.c0
  have c2 := h.c2
  have c3 := h.c3
  have c4 := h.c4
  have f2 := h.fr 2 (by omega)
  have f3 := h.fr 3 (by omega)
  have f4 := h.fr 4 (by omega)
  have hl := h.lt
  have g2 : (s.at == 2) = false := by simpa using h2.1
  have g1 : (s.at == 1) = false := by simpa using h2.2
  have e5 : (x.code == 45) = false := by simpa using hc.1
  have e7 : (x.code == 47) = false := by simpa using hc.2.1
  have e0 : (x.code == 40) = false := by simpa using hc.2.2
  have ez : (x.code == 0) = false := by simpa using h0
  clear h h2 hc h0
  simp only [aV]
  go_enter Tryz.func69, Tryz.ntmps69
  go_wp2_with fail
  go_step3
  go_wp2_with fail
  rw [Exit.noGoto_ret]
  go_end0
  exact H.out.post0 (by exact belC (Below.refl _ _)) rfl
set_option maxHeartbeats 1000000 in
theorem tailHear_lay (h : TailAt w tb S s) (h2 : s.at ≠ 2 ∧ s.at ≠ 1) (h0 : x.code = 0) (S' : Nat → Prop) (hl0 : ListsAt S' w a x.p.chains) : Calls Tryz.prog 69 #[.pointer (some ⟨tb, 0, none⟩), aV x a c, .bool true] w (TailHearPost w tb S (if goodB x.p = true then { s with p := x.p, «at» := 1 } else s)) := by
  have H := Lib.hid h
  have c0 := h.c0
  have c2 := h.c2
  have c3 := h.c3
  have c4 := h.c4
  have f2 := h.fr 2 (by omega)
  have f3 := h.fr 3 (by omega)
  have f4 := h.fr 4 (by omega)
  have hl := h.lt
  have f0 := h.fr 0 (by omega)
  have f1 := h.fr 1 (by omega)
  obtain ⟨ta, tc, c1, -⟩ := h.c1
  have g2 : (s.at == 2) = false := by simpa using h2.1
  have g1 : (s.at == 1) = false := by simpa using h2.2
  obtain ⟨xc, xn, xd, ⟨xpe, xls⟩, xm, xs, xe⟩ := x
  simp only at h0 hl0
  subst h0
  obtain ⟨W0, hW0, hB0, hz0, b0, b1, b2, b3, b4, b5, b6, b7⟩ := an_boxA w (.int .i64 0) (.int .i64 xn) (.string xd) (.int .i64 xpe) (.slice a xls.length c) (.int .i64 xm) (.int .i64 xs) (.int .i64 xe)
  have hlW := hl0.mod (F := none') (Mod.of_below hB0) (fun _ _ _ => id)
  have hgd := good_any S' W0 xpe a c xls hlW
  have HL := Lib.hid hlW
  have HW0 := Lib.hid hW0
  obtain ⟨g, hg⟩ : ∃ g, g = goodB ⟨xpe, xls⟩ := ⟨_, rfl⟩
  rw [← hg] at hgd
  have Hg := Lib.hid hg
  obtain ⟨s', hs'⟩ : ∃ s', s' = (if goodB ⟨xpe, xls⟩ = true then { s with p := ⟨xpe, xls⟩, «at» := 1 } else s) := ⟨_, rfl⟩
  rw [← hs']
  have Hs' := Lib.hid hs'
  clear h h2 hl0 hW0 hlW hg hs'
  simp only [aV]
  go_enter Tryz.func69, Tryz.ntmps69
  go_wp2_with fail
  go_step3
  go_wp2_with fail
  rw [← HW0.out]
  refine hgd.mono ?_
  clear hgd
  rintro e w1 ⟨rfl, hB1⟩
  have hz1 := hB1.size
  have lt0 : w.heap.size < W0.heap.size := by omega
  have ltb : tb < W0.heap.size := by omega
  have hBw1 : Below w.heap.size w w1 := hB0.trans (hB1.mono (by omega))
  replace b3 := below_at hB1 b3 lt0
  replace b4 := below_at hB1 b4 lt0
  cases g
  · go_wp2_with fail
    rw [Exit.noGoto_ret]
    go_end0
    rw [Hs'.out, if_neg (by rw [← Hg.out]; simp)]
    exact H.out.post0 hBw1 rfl
  · have hgood : Proj.good ⟨xpe, xls⟩ := of_decide_eq_true (show decide _ = true from Hg.out.symm)
    have hsm := (good_small hgood)
    have hcp := copy_any S' w1 xpe a c xls hsm (HL.out.mod (F := none') (Mod.of_below hB1) (fun _ _ _ => id))
    have Hsm := Lib.hid hsm
    clear hgood hsm
    go_wp2_with fail
    refine hcp.mono ?_
    clear hcp
    rintro e w2 ⟨ia, ic, rfl, hl2, hB2⟩
    have hz2 := hB2.size
    have hBw2 : Below w.heap.size w w2 := hBw1.trans (hB2.mono hBw1.size)
    have hT := H.out.below hBw2
    replace c0 := below_at hBw2 c0 hl
    replace c1 := below_at hBw2 c1 hl
    replace c2 := below_at hBw2 c2 hl
    replace c3 := below_at hBw2 c3 hl
    replace c4 := below_at hBw2 c4 hl
    replace f0 := (hBw2.frozen (p := ⟨tb, 0, none⟩) hl).trans f0
    replace f1 := (hBw2.frozen (p := ⟨tb, 1, none⟩) hl).trans f1
    replace f2 := (hBw2.frozen (p := ⟨tb, 2, none⟩) hl).trans f2
    have HL2 := Lib.hid hl2
    have HB2 := Lib.hid hBw2
    have HT := Lib.hid hT
    clear hl2 hB2 hBw2 hT hB1 hBw1 b3 b4 b0 b1 b2 b5 b6 b7
    go_wp2_with fail
    rw [Exit.noGoto_ret]
    go_end0
    rw [Hs'.out, if_pos (by rw [← Hg.out])]
    refine ⟨rfl, ⟨by go_simp, ⟨ia, ic, by go_simp, ?_⟩, by go_simp, by go_simp, by go_simp, fun o ho => by have := HT.out.fr o ho; go_simp, Or.inl HT.out.sb, Hsm.out⟩, (Mod.of_below HB2.out : Mod (· = tb) w w2).trans (by exact modC (Mod.refl _ _))⟩
    refine (HL2.out.mod (F := (· = tb)) (by exact modC (Mod.refl _ _)) (fun k hk _ e => ?_)).sub (fun k hkl hk => ?_)
    · have hk : w1.heap.size ≤ k := hk; omega
    · have hk : w1.heap.size ≤ k := hk
      exact ⟨Or.inr ⟨by omega, hkl⟩, by omega⟩
theorem tailHear_any (h : TailAt w tb S s) (S' : Nat → Prop) (hl0 : ListsAt S' w a x.p.chains) : Calls Tryz.prog 69 #[.pointer (some ⟨tb, 0, none⟩), aV x a c, .bool b] w (TailHearPost w tb S (s.hear x b)) := by
  unfold TaS.hear
  by_cases h1 : s.at = 2 ∨ b = false ∨ x.code = 45 ∨ x.code = 47
  · rw [if_pos h1]; exact tailHear_no x a c b h h1
  · rw [if_neg h1]
    simp only [not_or] at h1
    obtain ⟨g1, g2, g3, g4⟩ := h1
    have hb : b = true := by cases b <;> simp_all
    subst hb
    by_cases h2 : x.code = 40
    · rw [if_pos h2]; exact tailHear_sealed x a c h g1 h2
    · rw [if_neg h2]
      by_cases h3 : s.at = 1
      · rw [if_pos h3]
        by_cases h4 : x.code ≠ 0
        · rw [if_pos h4]; exact tailHear_tailE x a c h h3 ⟨g3, g4, h2⟩ h4
        · rw [if_neg h4]
          have h4 : x.code = 0 := by omega
          by_cases h5 : x.n < 0 ∨ 16384 < x.n
          · rw [if_pos h5]; exact tailHear_tail0 x a c h h3 h4 h5
          · rw [if_neg h5]; exact tailHear_tailN x a c h h3 h4 (by omega)
      · rw [if_neg h3]
        by_cases h4 : x.code = 0
        · have := tailHear_lay x a c h ⟨g1, h3⟩ h4 S' hl0
          by_cases h5 : goodB x.p = true
          · rw [if_pos h5] at this; rw [if_pos ⟨h4, h5⟩]; exact this
          · rw [if_neg h5] at this; rw [if_neg (fun e => h5 e.2)]; exact this
        · rw [if_neg (fun e => h4 e.1)]
          exact tailHear_layE x a c h ⟨g1, h3⟩ ⟨g3, g4, h2⟩ h4
end
end Go.Proofs.YtghdhhbpbmhooaaGreat
