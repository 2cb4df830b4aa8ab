/- package inode: Make, Link, Truncate -/
import Derived.Test.YtakbalmbkokklaaGreatIno2
namespace Esch
/-- what Link and Truncate want of an inode -/
structure InS.ok (x : InS) : Prop where
  l0 : 0 ≤ x.links
  l1 : x.links ≤ 8
  o0 : 0 ≤ x.opens
  o1 : x.opens ≤ 128
end Esch
namespace Go.Proofs.YtakbalmbkokklaaGreat
open Go.RowKit Esch Go.Shelf

theorem MapAt.len' {P : Program} {K V : Type} {κ : K → Value} {ν : V → Value} {m : List (K × V)} {w : World} {b : Nat} {mt kt et : TypeId} (h : MpAt w b κ ν m) (ht : P.underlying mt = some (.map kt et)) (ty : TypeId) : (Builtin.len_ #[mt] ty #[.map (some b)]).run P w = .ok (.int .i64 m.length) w := by
  obtain ⟨es, c, h⟩ := h
  have hs := h.size
  simp [Builtin.len_, run_underlying ht, Esch.run_getObj_map h.block, goInt, Result.andThen, hs]
def MakePost (w : World) (b : Nat) (S : Nat → Prop) (r : (Int × Int) × TabS) (e : Ending) (w' : World) : Prop := e = .returned (.tuple #[.int .i64 r.1.1, .int .i64 r.1.2]) ∧ TabAt w' b S r.2 ∧ Mod S w w'
set_option maxRecDepth 100000 in
set_option maxHeartbeats 4000000 in
theorem inoMake_any (w : World) (b : Nat) (S : Nat → Prop) (s : TabS) (h : TabAt w b S s) (kind : Int) (hk : kind = 1 ∨ kind = 2) (hn0 : 0 ≤ s.next) :
    Calls Tryz.prog 79 #[.pointer (some ⟨b, 0, none⟩), .int .i64 kind] w (MakePost w b S (s.make kind)) := by
  have H := Lib.hid h
  obtain ⟨sb, lt, mb, c0, c1, f1, hm, sm, n1⟩ := h
  have hlen := MapAt.len' hm Tryz.underlying82
  have hmk : s.make kind = if 64 ≤ s.m.length ∨ 2147483647 ≤ s.next then ((0, 67), s) else ((s.next, 0), ⟨set s.m s.next ⟨s.next, kind, 0, 0, 0⟩, s.next + 1⟩) := by
    unfold TabS.make; rw [if_neg (by omega)]
  have q1 : ((kind != 1) && (kind != 2)) = false := by rcases hk with rfl | rfl <;> rfl
  by_cases h64 : 64 ≤ s.m.length
  · rw [hmk, if_pos (Or.inl h64)]
    have h64' : (64 : Int) ≤ s.m.length := by omega
    clear hm hmk h64
    rcases hk with rfl | rfl
    all_goals
      go_enter Tryz.func79, Tryz.ntmps79
      go_wp2_with fail
      go_ret2
      exact ⟨rfl, H.out, Mod.refl _ _⟩
  have h64' : ¬ (64 : Int) ≤ s.m.length := by omega
  by_cases hnx : 2147483647 ≤ s.next
  · rw [hmk, if_pos (Or.inr hnx)]
    clear hm hmk h64
    rcases hk with rfl | rfl
    all_goals
      go_enter Tryz.func79, Tryz.ntmps79
      go_wp2_with fail
      go_ret2
      exact ⟨rfl, H.out, Mod.refl _ _⟩
  rw [hmk, if_neg (by omega)]
  have hmd := hm.mod (F := none') (w' := w.drew) (by exact modC (Mod.refl _ _)) id
  obtain ⟨W2, hu, hm2, hM2, hz2⟩ := MapAt.upz hmd keyInt Tryz.underlying82 s.next ⟨s.next, kind, 0, 0, 0⟩
  have hM2' : Mod (· = mb) w W2 := (show Mod (· = mb) w w.drew by exact modC (Mod.refl _ _)).trans hM2
  have e0 := hM2'.at c0 (fun e => n1 e.symm)
  have e1 := hM2'.at c1 (fun e => n1 e.symm)
  have g1 := (hM2'.frozen (p := ⟨b, 1, none⟩) (cell_lt c1) (fun e => n1 e.symm)).trans f1
  have d0 : w.drew.cell? ⟨b, 0, none⟩ = some (.map (some mb)) := c0
  have d1 : w.drew.cell? ⟨b, 1, none⟩ = some (.int .i64 s.next) := c1
  have hwr : wrap64 (s.next + 1) = s.next + 1 := by unfold wrap64; omega
  have hwr2 : wrap64 (s.next + 1 - 1) = s.next := by unfold wrap64; omega
  obtain ⟨W3, hW3⟩ : ∃ W3, W3 = W2.setCell ⟨b, 1, none⟩ (.int .i64 (s.next + 1)) := ⟨_, rfl⟩
  have hT3 : TabAt W3 b S ⟨set s.m s.next ⟨s.next, kind, 0, 0, 0⟩, s.next + 1⟩ := by
    have hl2 := cell_lt e1
    have hlm := hm2.lt
    have hb : mb ≠ b := n1
    refine ⟨sb, fun k hk => ?_, mb, ?_, ?_, ?_, ?_, sm, n1⟩
    · have := lt k hk
      have := hM2'.size
      rw [hW3]; simp only [World.size_setCell]; omega
    · rw [hW3]; go_simp
    · rw [hW3]; go_simp
    · rw [hW3]; go_simp
    · refine hm2.mod (F := (· = b)) ?_ hb
      rw [hW3]
      exact (Mod.refl (· = b) W2).setCellAt (fun _ => rfl) _
  have hM3 : Mod S w W3 := by
    rw [hW3]
    exact ((hM2'.mono (G := S) fun k _ hk => by have hk : k = mb := hk; rw [hk]; exact sm)).setCellAt (fun _ => sb) _
  have HT3 := Lib.hid hT3
  have HM3 := Lib.hid hM3
  have HW3 := Lib.hid hW3
  simp only [iV, inV] at hu
  generalize s.next = nx at *
  clear hm hmk h64 hmd hm2 hM2 hM2' hT3 hM3 hW3 n1 hz2
  rcases hk with rfl | rfl
  all_goals
    go_enter Tryz.func79, Tryz.ntmps79
    go_wp2_with fail
    refine region_tail 14 (by kernel_rfl) (by kernel_rfl) (fun T hT K hK => ?_)
    simp only [List.take_succ_cons, List.take_zero]
    repeat still_step
    refine wpStill_nil (hK _ ?_)
    clear hK
    simp only [List.drop_succ_cons, List.drop_zero] at hT
    subst hT
    go_wp2_with fail
    go_ret2
    rw [← HW3.out]
    exact ⟨rfl, HT3.out, HM3.out⟩
set_option maxRecDepth 100000 in
set_option maxHeartbeats 4000000 in
theorem inoLink_any (w : World) (b : Nat) (S : Nat → Prop) (s : TabS) (h : TabAt w b S s) (i d : Int) (hd : d = 1 ∨ d = -1) (hok : (s.at i).ok) :
    Calls Tryz.prog 86 #[.pointer (some ⟨b, 0, none⟩), .int .i64 i, .int .i64 d] w (TabPost w b S (s.link i d)) := by
  have hg := inoGet_any w b S s h i
  have hkp := fun W y x0 x1 x2 x3 => inoKeep_any W b S s y { s.at i with links := (s.at i).links + d } (decide (d < 0)) x0 x1 x2 x3
  obtain ⟨l0, l1, o0, o1⟩ := hok
  obtain ⟨r, hr⟩ : ∃ r, r = s.link i d := ⟨_, rfl⟩
  rw [← hr]
  unfold TabS.link at hr
  obtain ⟨⟨x0, x1, x2, x3, x4⟩, hx⟩ : ∃ x, x = s.at i := ⟨_, rfl⟩
  rw [← hx] at hg hr hkp l0 l1 o0 o1
  simp only [inV] at hg hkp l0 l1 o0 o1
  cases hh : s.has i
  · rw [hh] at hg hr
    rw [if_pos rfl] at hr
    subst hr
    clear hx hkp hh l0 l1 o0 o1
    go_enter Tryz.func86, Tryz.ntmps86
    go_wp2_with fail
    refine hg.mono ?_
    clear hg
    rintro e W2 ⟨rfl, hB2⟩
    have hz := hB2.size
    have hT := h.below' hB2
    go_wp2_with fail
    go_ret
    exact ⟨rfl, hT.below' (by exact belC (Below.refl _ _)), Mod.of_below (by exact belC hB2)⟩
  rw [hh] at hg hr
  rw [if_neg (by simp)] at hr
  have q1 : ((d != 1) && (d != -1)) = false := by rcases hd with rfl | rfl <;> rfl
  by_cases h1 : i = 1
  · rw [if_pos (Or.inr h1)] at hr
    subst hr
    subst h1
    clear hx hkp hh l0 l1 o0 o1
    rcases hd with rfl | rfl
    all_goals
      go_enter Tryz.func86, Tryz.ntmps86
      go_wp2_with fail
      refine hg.mono ?_
      clear hg
      rintro e W2 ⟨rfl, hB2⟩
      have hz := hB2.size
      have hT := h.below' hB2
      go_wp2_with fail
      go_ret
      exact ⟨rfl, hT.below' (by exact belC (Below.refl _ _)), Mod.of_below (by exact belC hB2)⟩
  rw [if_neg (by omega)] at hr
  have h1' : (i == 1) = false := by simpa using h1
  have hwr : wrap64 (x2 + d) = x2 + d := by unfold wrap64; omega
  by_cases hlo : x2 + d < 0
  · rw [if_pos (Or.inl hlo)] at hr
    subst hr
    obtain rfl : d = -1 := by omega
    clear hx hkp hh h1 hd
    go_enter Tryz.func86, Tryz.ntmps86
    go_wp2_with fail
    refine hg.mono ?_
    clear hg
    rintro e W2 ⟨rfl, hB2⟩
    have hz := hB2.size
    have hT := h.below' hB2
    go_wp2_with fail
    go_ret
    exact ⟨rfl, hT.below' (by exact belC (Below.refl _ _)), Mod.of_below (by exact belC hB2)⟩
  by_cases hhi : 8 < x2 + d
  · rw [if_pos (Or.inr hhi)] at hr
    subst hr
    obtain rfl : d = 1 := by omega
    clear hx hkp hh h1 hd
    go_enter Tryz.func86, Tryz.ntmps86
    go_wp2_with fail
    refine hg.mono ?_
    clear hg
    rintro e W2 ⟨rfl, hB2⟩
    have hz := hB2.size
    have hT := h.below' hB2
    go_wp2_with fail
    go_ret
    exact ⟨rfl, hT.below' (by exact belC (Below.refl _ _)), Mod.of_below (by exact belC hB2)⟩
  rw [if_neg (fun h => h.elim hlo hhi)] at hr
  subst hr
  have hkp2 := fun W y => hkp W y (by omega) (by omega) o0 (by omega)
  clear hx hkp hh h1
  rcases hd with rfl | rfl
  · go_enter Tryz.func86, Tryz.ntmps86
    go_wp2_with fail
    refine hg.mono ?_
    clear hg
    rintro e W2 ⟨rfl, hB2⟩
    have hz := hB2.size
    have hT := Lib.hid (h.below' hB2)
    have HB2 := Lib.hid hB2
    clear hB2
    go_wp2_with fail
    have hT3 := hT.out.below' (w' := W2.alloc (.cells #[.int .i64 x0, .int .i64 x1, .int .i64 (x2 + 1), .int .i64 x3, .int .i64 x4, .slice none 0 0] 85)) (by exact belC (Below.refl _ _))
    have hM3 : Mod S w (W2.alloc (.cells #[.int .i64 x0, .int .i64 x1, .int .i64 (x2 + 1), .int .i64 x3, .int .i64 x4, .slice none 0 0] 85)) := Mod.of_below (by exact belC HB2.out)
    have HM3 := Lib.hid hM3
    refine (hkp2 _ hT3).mono ?_
    clear hkp2 hT3 hM3
    rintro e W4 ⟨rfl, hT4, hM4⟩
    go_wp2_with fail
    go_ret
    exact ⟨rfl, hT4, HM3.out.trans hM4⟩
  · go_enter Tryz.func86, Tryz.ntmps86
    go_wp2_with fail
    refine hg.mono ?_
    clear hg
    rintro e W2 ⟨rfl, hB2⟩
    have hz := hB2.size
    have hT := Lib.hid (h.below' hB2)
    have HB2 := Lib.hid hB2
    clear hB2
    go_wp2_with fail
    have hT3 := hT.out.below' (w' := W2.alloc (.cells #[.int .i64 x0, .int .i64 x1, .int .i64 (x2 + -1), .int .i64 x3, .int .i64 x4, .slice none 0 0] 85)) (by exact belC (Below.refl _ _))
    have hM3 : Mod S w (W2.alloc (.cells #[.int .i64 x0, .int .i64 x1, .int .i64 (x2 + -1), .int .i64 x3, .int .i64 x4, .slice none 0 0] 85)) := Mod.of_below (by exact belC HB2.out)
    have HM3 := Lib.hid hM3
    refine (hkp2 _ hT3).mono ?_
    clear hkp2 hT3 hM3
    rintro e W4 ⟨rfl, hT4, hM4⟩
    go_wp2_with fail
    go_ret
    exact ⟨rfl, hT4, HM3.out.trans hM4⟩
end Go.Proofs.YtakbalmbkokklaaGreat
