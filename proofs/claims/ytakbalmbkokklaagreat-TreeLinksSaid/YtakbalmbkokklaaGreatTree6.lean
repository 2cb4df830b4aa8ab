/- package tree: Find, Stat, List, Inodes, Names -/
import Derived.Test.YtakbalmbkokklaaGreatTree4
namespace Esch
open Go Go.RowKit
def Res.code {α : Type} (r : Res α) : Int := match r with
  | .ok _ => 0
  | .err e => e
def Res.val {α : Type} (r : Res α) (d : α) : α := match r with
  | .ok a => a
  | .err _ => d
end Esch
namespace Go.Proofs.YtakbalmbkokklaaGreat
open Go.RowKit Esch Go.Shelf

def FindR (W1 : World) (b bx : Nat) (S : Nat → Prop) (s : TrS) (r : Res Int) (x : Int) (W : World) : Prop :=
  x = r.code ∧ TreeAt W b S s ∧ W.cell? ⟨bx, 0, none⟩ = some (.int .i64 (r.val 0)) ∧ Mod (· = bx) W1 W
theorem find1_any (W : World) (b tb pb bx : Nat) (S : Nat → Prop) (s : TrS) (h : TreeAt W b S s) (p : Nm)
    (t0 : W.cell? ⟨tb, 0, none⟩ = some (.pointer (some ⟨b, 0, none⟩))) (p0 : W.cell? ⟨pb, 0, none⟩ = some (.string (bs p))) (x0 : W.cell? ⟨bx, 0, none⟩ = some (.int .i64 0)) (f0 : W.frozen? ⟨bx, 0, none⟩ = false) (nx : ¬ S bx) :
    Calls Tryz.prog 62 #[.pointer (some ⟨tb, 0, none⟩), .pointer (some ⟨pb, 0, none⟩), .pointer (some ⟨bx, 0, none⟩)] W (DoPost (FindR W b bx S s (s.resolve p))) := by
  have hrs := trResolve_any W b S s h p
  have H := Lib.hid h
  clear h
  cases hr : s.resolve p with
  | err e =>
    rw [hr] at hrs
    clear hr
    go_enter Tryz.func62, Tryz.ntmps62
    go_wp2_with fail
    refine hrs.mono ?_
    rintro e W2 ⟨hB2, rfl⟩
    go_wp2_with fail
    exact ⟨rfl, Or.inr ⟨_, rfl, rfl, H.out.below' hB2, below_at hB2 x0 (cell_lt x0), Mod.of_below hB2⟩⟩
  | ok i =>
    rw [hr] at hrs
    clear hr
    go_enter Tryz.func62, Tryz.ntmps62
    go_wp2_with fail
    refine hrs.mono ?_
    rintro e W2 ⟨hB2, rfl⟩
    have x2 := below_at hB2 x0 (cell_lt x0)
    have f2 := (hB2.frozen (p := ⟨bx, 0, none⟩) (cell_lt x0)).trans f0
    have hl := cell_lt x2
    go_wp2_with fail
    go_end0
    refine Or.inl ⟨rfl, rfl, (H.out.below' hB2).mod (F := (· = bx)) ((Mod.refl (· = bx) W2).setCellAt (fun _ => rfl) _) (fun k hk e => nx (by rw [← e]; exact hk)), by go_simp; rfl, (Mod.of_below (F := (· = bx)) hB2).setCellAt (fun _ => rfl) _⟩
def FindPost (w : World) (r : Res Int) (e : Ending) (w' : World) : Prop := e = .returned (.tuple #[.int .i64 (r.val 0), .int .i64 r.code]) ∧ Below w.heap.size w w'
set_option maxRecDepth 100000 in
set_option maxHeartbeats 2000000 in
theorem trFind_any (w : World) (b : Nat) (S : Nat → Prop) (s : TrS) (h : TreeAt w b S s) (p : Nm) :
    Calls Tryz.prog 29 #[.pointer (some ⟨b, 0, none⟩), .string (bs p)] w (FindPost w (s.resolve p)) := by
  obtain ⟨W1, hW1⟩ : ∃ W1, W1 = ((w.alloc (.cells #[.pointer (some ⟨b, 0, none⟩)] 23)).alloc (.cells #[.string (bs p)] 9)).alloc (.cells #[.int .i64 0] 3) := ⟨_, rfl⟩
  have hz1 : W1.heap.size = w.heap.size + 3 := by rw [hW1]; simp
  have hmf : ∀ (fn : Fn) (first cap : Array Value) (w : World), (Instr.makeFunc fn first cap).run Tryz.prog w = .ok (.func fn first cap) w := fun _ _ _ _ => rfl
  have hB1 : Below w.heap.size w W1 := by rw [hW1]; exact belC (Below.refl _ _)
  have hns : ∀ k, w.heap.size ≤ k → ¬ S k := fun k hk hs => by have := h.lt k hs; omega
  have hBe : Below w.heap.size w (W1.alloc (.cells #[.int .i64 0] 27)) := by exact belC hB1
  have hdo := find1_any (W1.alloc (.cells #[.int .i64 0] 27)) b w.heap.size (w.heap.size + 1) (w.heap.size + 2) S s (h.below' hBe) p (by rw [hW1]; go_simp) (by rw [hW1]; go_simp) (by rw [hW1]; go_simp) (by rw [hW1]; go_simp) (hns _ (by omega))
  have htr := tries_any W1 b 62 #[.pointer (some ⟨w.heap.size, 0, none⟩), .pointer (some ⟨w.heap.size + 1, 0, none⟩), .pointer (some ⟨w.heap.size + 2, 0, none⟩)] _ (enters_of Tryz.func62 (by kernel_rfl) rfl) hdo (fun x W hr => ⟨hr.2.2.2.at (by go_simp) (by omega), (hr.2.2.2.frozen (p := ⟨W1.heap.size, 0, none⟩) (by simp) (by show ¬ (W1.heap.size = w.heap.size + 2); omega)).trans (by go_simp)⟩)
  have HW1 := Lib.hid hW1
  have HB1 := Lib.hid hB1
  have HZ := Lib.hid hz1
  obtain ⟨r, hr⟩ : ∃ r, r = s.resolve p := ⟨_, rfl⟩
  rw [← hr] at htr ⊢
  clear hr hB1 hW1 hBe hns hdo hz1 h
  go_enter Tryz.func29, Tryz.ntmps29
  go_wp2_with fail
  rw [← HW1.out]
  refine htr.mono ?_
  clear htr
  rintro e W2 ⟨x, W, rfl, ⟨rfl, hT, hc, hM⟩, hM2⟩
  have hne : ¬ w.heap.size + 2 = W1.heap.size := by have := HZ.out; omega
  have c2 := hM2.at hc hne
  have hB : Below w.heap.size w W := HB1.out.trans ((show Below W1.heap.size W1 (W1.alloc (.cells #[.int .i64 0] 27)) by exact belC (Below.refl _ _)).mono HB1.out.size) |>.trans (hM.below_at (by have := HZ.out; simp only [World.size_alloc]; omega) (fun k hk e => by have e : k = w.heap.size + 2 := e; omega))
  have hB2 : Below w.heap.size w W2 := hB.trans (hM2.below_at hB.size (fun k hk e => by have := HZ.out; have e : k = W1.heap.size := e; omega))
  have HB2 := Lib.hid hB2
  clear hT hc hM hM2 hB hB2
  go_wp2_with fail
  go_ret2
  exact ⟨rfl, HB2.out⟩
/-- what is told of an inode, in four cells -/
structure StAt (W : World) (bx : Nat) (x : InS) : Prop where
  c0 : W.cell? ⟨bx, 0, none⟩ = some (.int .i64 x.ino)
  c1 : W.cell? ⟨bx, 1, none⟩ = some (.int .i64 x.kind)
  c2 : W.cell? ⟨bx, 2, none⟩ = some (.int .i64 x.links)
  c3 : W.cell? ⟨bx, 3, none⟩ = some (.int .i64 x.size)
  f0 : W.frozen? ⟨bx, 0, none⟩ = false
  f1 : W.frozen? ⟨bx, 1, none⟩ = false
  f2 : W.frozen? ⟨bx, 2, none⟩ = false
  f3 : W.frozen? ⟨bx, 3, none⟩ = false
theorem StAt.mod {F : Nat → Prop} {W W' : World} {bx : Nat} {x : InS} (h : StAt W bx x) (hM : Mod F W W') (hb : ¬ F bx) : StAt W' bx x := by
  obtain ⟨c0, c1, c2, c3, f0, f1, f2, f3⟩ := h
  have hl := cell_lt c0
  exact ⟨hM.at c0 hb, hM.at c1 hb, hM.at c2 hb, hM.at c3 hb, (hM.frozen (p := ⟨bx, 0, none⟩) hl hb).trans f0, (hM.frozen (p := ⟨bx, 1, none⟩) hl hb).trans f1, (hM.frozen (p := ⟨bx, 2, none⟩) hl hb).trans f2, (hM.frozen (p := ⟨bx, 3, none⟩) hl hb).trans f3⟩
def statOf (s : TrS) (r : Res Int) : InS := match r with
  | .ok i => s.t.at i
  | .err _ => in0
def StatR (W1 : World) (b bx : Nat) (S : Nat → Prop) (s : TrS) (r : Res Int) (x : Int) (W : World) : Prop :=
  x = r.code ∧ TreeAt W b S s ∧ StAt W bx (statOf s r) ∧ Mod (· = bx) W1 W
set_option maxRecDepth 100000 in
set_option maxHeartbeats 4000000 in
theorem stat1_any (W : World) (b tb pb bx : Nat) (S : Nat → Prop) (s : TrS) (h : TreeAt W b S s) (p : Nm)
    (t0 : W.cell? ⟨tb, 0, none⟩ = some (.pointer (some ⟨b, 0, none⟩))) (p0 : W.cell? ⟨pb, 0, none⟩ = some (.string (bs p))) (x0 : StAt W bx in0) (nx : ¬ S bx) (ntx : tb ≠ bx) (npx : pb ≠ bx) :
    Calls Tryz.prog 44 #[.pointer (some ⟨tb, 0, none⟩), .pointer (some ⟨pb, 0, none⟩), .pointer (some ⟨bx, 0, none⟩)] W (DoPost (StatR W b bx S s (s.resolve p))) := by
  have hBd : Below W.heap.size W W.drew := by exact belC (Below.refl _ _)
  have hrs := trResolve_any W.drew b S s (h.below' hBd) p
  have H := Lib.hid h
  have hT := h.below' hBd
  obtain ⟨sb, lt, ib, nb, S1, S2, c0, c1, ht, hn, s1, s2, dd, b1, b2⟩ := hT
  have hbx : b ≠ bx := fun e => nx (by rw [← e]; exact sb)
  have hKd : W.drew.cell? ⟨tb, 0, none⟩ = some (.pointer (some ⟨b, 0, none⟩)) ∧ W.drew.cell? ⟨pb, 0, none⟩ = some (.string (bs p)) ∧ W.drew.cell? ⟨b, 0, none⟩ = some (.pointer (some ⟨ib, 0, none⟩)) := ⟨t0, p0, c0⟩
  have hst := fun W' hB i => inoStat_any W' ib S1 s.t (ht.below' (w' := W') hB) i
  have hlb := cell_lt c0
  clear h ht hn s1 s2 dd lt sb c1 b2 b1
  cases hr : s.resolve p with
  | err e =>
    rw [hr] at hrs
    clear hr
    go_enter Tryz.func44, Tryz.ntmps44
    go_wp2_with fail
    refine wp_region_held_drew (S := fun W' => W'.cell? ⟨tb, 0, none⟩ = some (.pointer (some ⟨b, 0, none⟩)) ∧ W'.cell? ⟨pb, 0, none⟩ = some (.string (bs p)) ∧ W'.cell? ⟨b, 0, none⟩ = some (.pointer (some ⟨ib, 0, none⟩))) (by kernel_rfl) hKd (fun hHeld => ?_)
    refine takeL 0 ?_
    refine takeL 1 ?_
    refine takeL 2 ?_
    refine takeL 3 ?_
    refine takeL 4 ?_
    refine takeL 5 ?_
    refine wpAnyH_ready (rs := [6]) (by kernel_rfl) (by simp) ?_
    refine AllReadyH.cons (o := _) rfl (fun K hK => ?_) AllReadyH.nil
    go_simp
    go_at_call 40
    with_reducible refine hrs.mono ?_
    clear hrs
    rintro e W2 ⟨hB2, rfl⟩
    go_wp2_with fail
    have hB : Below W.heap.size W W2 := hBd.trans hB2
    exact ⟨rfl, Or.inr ⟨_, rfl, rfl, H.out.below' hB, x0.mod (F := none') (Mod.of_below hB) id, Mod.of_below hB⟩⟩
  | ok i =>
    rw [hr] at hrs
    obtain ⟨⟨y0, y1, y2, y3, y4⟩, hy⟩ : ∃ y, y = s.t.at i := ⟨_, rfl⟩
    have hst2 := fun W' hB => hst W' hB i
    rw [← hy] at hst2
    simp only [statV] at hst2
    have HY := Lib.hid hy
    generalize s.t.has i = yb at hst2
    obtain ⟨x0a, x0b, x0c, x0d, xfa, xfb, xfc, xfd⟩ := x0
    have hlx := cell_lt x0a
    simp only [in0] at x0a x0b x0c x0d
    clear hr hst hy
    go_enter Tryz.func44, Tryz.ntmps44
    go_wp2_with fail
    go_region_held3 (fun W' => W'.cell? ⟨tb, 0, none⟩ = some (.pointer (some ⟨b, 0, none⟩)) ∧ W'.cell? ⟨pb, 0, none⟩ = some (.string (bs p)) ∧ W'.cell? ⟨b, 0, none⟩ = some (.pointer (some ⟨ib, 0, none⟩)))
      (first
        | with_reducible exact hKd
        | with_reducible exact hK2
        | with_reducible exact hK3
        | with_reducible exact hK4 _ _ _ _)
      (first
        | (go_at_call 40; (with_reducible refine hrs.mono ?_); rintro e w2 ⟨hB2, rfl⟩
           have hK2 : w2.cell? ⟨tb, 0, none⟩ = some (.pointer (some ⟨b, 0, none⟩)) ∧ w2.cell? ⟨pb, 0, none⟩ = some (.string (bs p)) ∧ w2.cell? ⟨b, 0, none⟩ = some (.pointer (some ⟨ib, 0, none⟩)) := ⟨below_at hB2 hKd.1 (cell_lt hKd.1), below_at hB2 hKd.2.1 (cell_lt hKd.2.1), below_at hB2 hKd.2.2 hlb⟩
           have hst3 := hst2 w2 hB2
           have HB2 := Lib.hid (hBd.trans hB2)
           clear hB2)
        | (go_at_call 28; (with_reducible refine hst3.mono ?_); rintro e w3 ⟨rfl, hB3⟩
           have hB := HB2.out.trans (hB3.mono HB2.out.size)
           have g0 := below_at hB x0a hlx
           have g1 := below_at hB x0b hlx
           have g2 := below_at hB x0c hlx
           have g3 := below_at hB x0d hlx
           have m0 := (hB.frozen (p := ⟨bx, 0, none⟩) hlx).trans xfa
           have m1 := (hB.frozen (p := ⟨bx, 1, none⟩) hlx).trans xfb
           have m2 := (hB.frozen (p := ⟨bx, 2, none⟩) hlx).trans xfc
           have m3 := (hB.frozen (p := ⟨bx, 3, none⟩) hlx).trans xfd
           have q0 := below_at hB t0 (cell_lt t0)
           have q1 := below_at hB p0 (cell_lt p0)
           have q2 := below_at hB3 hK2.2.2 (cell_lt hK2.2.2)
           have hlg := cell_lt g0
           have hK3 : w3.cell? ⟨tb, 0, none⟩ = some (.pointer (some ⟨b, 0, none⟩)) ∧ w3.cell? ⟨pb, 0, none⟩ = some (.string (bs p)) ∧ w3.cell? ⟨b, 0, none⟩ = some (.pointer (some ⟨ib, 0, none⟩)) := ⟨q0, q1, q2⟩
           have hK4 : ∀ a0 a1 a2 a3, ((((w3.setCell ⟨bx, 0, none⟩ a0).setCell ⟨bx, 1, none⟩ a1).setCell ⟨bx, 2, none⟩ a2).setCell ⟨bx, 3, none⟩ a3).cell? ⟨tb, 0, none⟩ = some (.pointer (some ⟨b, 0, none⟩)) ∧ ((((w3.setCell ⟨bx, 0, none⟩ a0).setCell ⟨bx, 1, none⟩ a1).setCell ⟨bx, 2, none⟩ a2).setCell ⟨bx, 3, none⟩ a3).cell? ⟨pb, 0, none⟩ = some (.string (bs p)) ∧ ((((w3.setCell ⟨bx, 0, none⟩ a0).setCell ⟨bx, 1, none⟩ a1).setCell ⟨bx, 2, none⟩ a2).setCell ⟨bx, 3, none⟩ a3).cell? ⟨b, 0, none⟩ = some (.pointer (some ⟨ib, 0, none⟩)) := fun _ _ _ _ => ⟨by go_simp, by go_simp, by go_simp⟩
           have HB3 := Lib.hid hB
           clear hB hB3))
    go_end0
    have hM4 : Mod (· = bx) w3 ((((w3.setCell ⟨bx, 0, none⟩ (.int .i64 y0)).setCell ⟨bx, 1, none⟩ (.int .i64 y1)).setCell ⟨bx, 2, none⟩ (.int .i64 y2)).setCell ⟨bx, 3, none⟩ (.int .i64 y4)) := ((((Mod.refl (· = bx) w3).setCellAt (fun _ => rfl) _).setCellAt (fun _ => rfl) _).setCellAt (fun _ => rfl) _).setCellAt (fun _ => rfl) _
    refine Or.inl ⟨rfl, rfl, (H.out.below' HB3.out).mod hM4 (fun k hk e => nx (by rw [← e]; exact hk)), ?_, (Mod.of_below HB3.out).trans hM4⟩
    show StAt _ bx (s.t.at i)
    rw [← HY.out]
    exact ⟨by go_simp, by go_simp, by go_simp, by go_simp, by go_simp, by go_simp, by go_simp, by go_simp⟩
def StatPost (w : World) (s : TrS) (r : Res Int) (e : Ending) (w' : World) : Prop := e = .returned (.tuple #[statV (statOf s r), .int .i64 r.code]) ∧ Below w.heap.size w w'
set_option maxRecDepth 100000 in
set_option maxHeartbeats 4000000 in
theorem trStat_any (w : World) (b : Nat) (S : Nat → Prop) (s : TrS) (h : TreeAt w b S s) (p : Nm) :
    Calls Tryz.prog 14 #[.pointer (some ⟨b, 0, none⟩), .string (bs p)] w (StatPost w s (s.resolve p)) := by
  obtain ⟨W1, hW1⟩ : ∃ W1, W1 = (((w.alloc (.cells #[.pointer (some ⟨b, 0, none⟩)] 23)).alloc (.cells #[.string (bs p)] 9)).alloc (.cells #[.int .i64 0, .int .i64 0, .int .i64 0, .int .i64 0] 32)).alloc (.cells #[.int .i64 0, .int .i64 0, .int .i64 0, .int .i64 0] 32) := ⟨_, rfl⟩
  have hz1 : W1.heap.size = w.heap.size + 4 := by rw [hW1]; simp
  have hmf : ∀ (fn : Fn) (first cap : Array Value) (w : World), (Instr.makeFunc fn first cap).run Tryz.prog w = .ok (.func fn first cap) w := fun _ _ _ _ => rfl
  have hB1 : Below w.heap.size w W1 := by rw [hW1]; exact belC (Below.refl _ _)
  have hns : ∀ k, w.heap.size ≤ k → ¬ S k := fun k hk hs => by have := h.lt k hs; omega
  have hBe : Below w.heap.size w (W1.alloc (.cells #[.int .i64 0] 27)) := by exact belC hB1
  have hsa : StAt (W1.alloc (.cells #[.int .i64 0] 27)) (w.heap.size + 3) in0 := by rw [hW1]; exact ⟨by go_simp; rfl, by go_simp; rfl, by go_simp; rfl, by go_simp; rfl, by go_simp, by go_simp, by go_simp, by go_simp⟩
  have hra : StAt W1 (w.heap.size + 2) in0 := by rw [hW1]; exact ⟨by go_simp; rfl, by go_simp; rfl, by go_simp; rfl, by go_simp; rfl, by go_simp, by go_simp, by go_simp, by go_simp⟩
  have hdo := stat1_any (W1.alloc (.cells #[.int .i64 0] 27)) b w.heap.size (w.heap.size + 1) (w.heap.size + 3) S s (h.below' hBe) p (by rw [hW1]; go_simp) (by rw [hW1]; go_simp) hsa (hns _ (by omega)) (by omega) (by omega)
  have htr := tries_any W1 b 44 #[.pointer (some ⟨w.heap.size, 0, none⟩), .pointer (some ⟨w.heap.size + 1, 0, none⟩), .pointer (some ⟨w.heap.size + 3, 0, none⟩)] _ (enters_of Tryz.func44 (by kernel_rfl) rfl) hdo (fun x W hr => ⟨hr.2.2.2.at (by go_simp) (by omega), (hr.2.2.2.frozen (p := ⟨W1.heap.size, 0, none⟩) (by simp) (by show ¬ (W1.heap.size = w.heap.size + 3); omega)).trans (by go_simp)⟩)
  have HW1 := Lib.hid hW1
  have HB1 := Lib.hid hB1
  have HZ := Lib.hid hz1
  have HRA := Lib.hid hra
  obtain ⟨r, hr⟩ : ∃ r, r = s.resolve p := ⟨_, rfl⟩
  rw [← hr] at htr ⊢
  unfold StatPost
  unfold StatR at htr
  obtain ⟨⟨y0, y1, y2, y3, y4⟩, hy⟩ : ∃ y, y = statOf s r := ⟨_, rfl⟩
  rw [← hy] at htr ⊢
  clear hr hB1 hW1 hBe hns hdo hz1 h hsa hra hy
  simp only [statV]
  go_enter Tryz.func14, Tryz.ntmps14
  go_wp2_with fail
  rw [← HW1.out]
  refine htr.mono ?_
  clear htr
  rintro e W2 ⟨x, W, rfl, ⟨rfl, hT, hc, hM⟩, hM2⟩
  have hne : ¬ w.heap.size + 3 = W1.heap.size := by have := HZ.out; omega
  have hne2 : ¬ w.heap.size + 2 = W1.heap.size := by have := HZ.out; omega
  obtain ⟨c0, c1, c2, c3, -, -, -, -⟩ := hc.mod hM2 hne
  have hBa : Below W1.heap.size W1 (W1.alloc (.cells #[.int .i64 0] 27)) := by exact belC (Below.refl _ _)
  obtain ⟨d0, d1, d2, d3, f0, f1, f2, f3⟩ := ((HRA.out.mod (F := none') (Mod.of_below hBa) id).mod hM (by omega)).mod hM2 hne2
  have hB : Below w.heap.size w W := HB1.out.trans (hBa.mono HB1.out.size) |>.trans (hM.below_at (by have := HZ.out; simp only [World.size_alloc]; omega) (fun k hk e => by have e : k = w.heap.size + 3 := e; omega))
  have hB2 : Below w.heap.size w W2 := hB.trans (hM2.below_at hB.size (fun k hk e => by have := HZ.out; have e : k = W1.heap.size := e; omega))
  have HB2 := Lib.hid hB2
  have hl2 := cell_lt d0
  clear hT hc hM hM2 hB hB2 hBa
  go_wp2_with fail
  refine bodyPost_ret (v := .tuple #[.agg #[.int .i64 y0, .int .i64 y1, .int .i64 y2, .int .i64 y4], .int .i64 r.code]) (by simp [results, Tryz.results14, go_sem, *]) rfl ?_
  exact ⟨rfl, by exact belC HB2.out⟩
theorem trInodes_any (w : World) (b : Nat) (S : Nat → Prop) (s : TrS) (h : TreeAt w b S s) : Calls Tryz.prog 16 #[.pointer (some ⟨b, 0, none⟩)] w fun e w' => (∃ ib S1, e = .returned (.pointer (some ⟨ib, 0, none⟩)) ∧ TabAt w ib S1 s.t) ∧ w' = w := by
  obtain ⟨sb, lt, ib, nb, S1, S2, c0, c1, ht, hn, s1, s2, dd, b1, b2⟩ := h
  have HT := Lib.hid ht
  clear ht hn
  go_enter Tryz.func16, Tryz.ntmps16
  go_wp2_with fail
  go_ret
  exact ⟨⟨ib, S1, rfl, HT.out⟩, rfl⟩
theorem trNames_any (w : World) (b : Nat) (S : Nat → Prop) (s : TrS) (h : TreeAt w b S s) : Calls Tryz.prog 26 #[.pointer (some ⟨b, 0, none⟩)] w fun e w' => (∃ nb S2, e = .returned (.pointer (some ⟨nb, 0, none⟩)) ∧ DirAt w nb S2 s.n) ∧ w' = w := by
  obtain ⟨sb, lt, ib, nb, S1, S2, c0, c1, ht, hn, s1, s2, dd, b1, b2⟩ := h
  have HN := Lib.hid hn
  clear ht hn
  go_enter Tryz.func26, Tryz.ntmps26
  go_wp2_with fail
  go_ret
  exact ⟨⟨nb, S2, rfl, HN.out⟩, rfl⟩
end Go.Proofs.YtakbalmbkokklaaGreat
